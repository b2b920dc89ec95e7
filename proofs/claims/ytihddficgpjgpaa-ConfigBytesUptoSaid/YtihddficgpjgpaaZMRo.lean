/- MRo: Yrdo, Yrdw, Ydeo, one behind the other. -/
import Derived.Test.YtihddficgpjgpaaZYenc2
namespace Go.Proofs.Ytihddficgpjgpaa.Y
open Go.RowKit Go.ChangeShapes Go.WideShapes Go.ChangeAt
section
variable {d : Nat} {t : TypeId} {p : String} {af : Array Edge} {g : Option (Nat × Bool)} {x x2 : Operand}
theorem bd67_2 : ∀ (ev : Operand → Value) (w : World) (k q : Int), ev x = .int .i64 k → ev x2 = .int .i64 q → (execOp ev ⟨some d, .build 67 #[(0, x), (1, x2)], t, p, af, g⟩).run Try.prog w = .ok (.value (.agg #[.int .i64 k, .int .i64 q, .int .i64 0, .slice none 0 0, .int .i64 0, .slice none 0 0, .int .i64 0, .int .i64 0, .slice none 0 0, .slice none 0 0, .int .i64 0, .int .i64 0])) w := fun ev w k q h1 h2 => by go_simp
theorem al_153 : AllocRun Try.prog ⟨some d, .alloc 153, t, p, af, none⟩ 153 #[.int .u64 0, .int .u64 0, .int .u64 0, .int .u64 0, .int .u64 0] := fun ev w => by go_simp
theorem bd145 {x3 x4 x5 : Operand} {a b c' d' : Int} {e' : Bool} : ∀ (ev : Operand → Value) (w : World), ev x = .int .i64 a → ev x2 = .int .u64 b → ev x3 = .int .i64 c' → ev x4 = .int .i64 d' → ev x5 = .bool e' → (execOp ev ⟨some d, .build 145 #[(0, x), (1, x2), (2, x3), (3, x4), (4, x5)], t, p, af, g⟩).run Try.prog w = .ok (.value (.agg #[.int .i64 a, .int .u64 b, .int .i64 c', .int .i64 d', .bool e'])) w := fun ev w h1 h2 h3 h4 h5 => by go_simp
theorem bs_65 : BsRun Try.prog ⟨some d, .buildSlice 65 1 #[(0, x)], t, p, af, g⟩ x 5 145 := fun ev w cs h1 h2 => by
  obtain ⟨cs⟩ := cs
  match cs, h2 with
  | [a0, a1, a2, a3, a4], _ => go_simp
theorem fa_153 : ArrRun Try.prog ⟨some d, .indexAddr 153 x (.const (.int .i64 0)), t, p, af, g⟩ x 0 ∧ ArrRun Try.prog ⟨some d, .indexAddr 153 x (.const (.int .i64 1)), t, p, af, g⟩ x 1 ∧ ArrRun Try.prog ⟨some d, .indexAddr 153 x (.const (.int .i64 2)), t, p, af, g⟩ x 2 ∧ ArrRun Try.prog ⟨some d, .indexAddr 153 x (.const (.int .i64 3)), t, p, af, g⟩ x 3 ∧ ArrRun Try.prog ⟨some d, .indexAddr 153 x (.const (.int .i64 4)), t, p, af, g⟩ x 4 :=
  ⟨fun ev w b off hc h1 => by go_simp, fun ev w b off hc h1 => by go_simp, fun ev w b off hc h1 => by go_simp, fun ev w b off hc h1 => by go_simp, fun ev w b off hc h1 => by go_simp⟩
theorem fi_153 {j : Nat} (hj : j < 5) : ∀ (ev : Operand → Value) (w : World) (b off : Nat), ev x = .pointer (some ⟨b, off, none⟩) → ev x2 = .int .i64 j → (execOp ev ⟨some d, .indexAddr 153 x x2, t, p, af, g⟩).run Try.prog w = .ok (.value (.pointer (some ⟨b, off + j, none⟩))) w := fun ev w b off h1 h2 => by
  match j, hj with
  | 0, _ => go_simp
  | 1, _ => go_simp
  | 2, _ => go_simp
  | 3, _ => go_simp
  | 4, _ => go_simp
section
variable {U : Prop} {ops : Array Oper} {Q : Exit → Act → World → Prop} {N : Nat} {e : Env} {c : Bool}
theorem p_bd67_2 {k q : Int} (hg : GdE ops e g c) (hx : OpdE e c x (.int .i64 k)) (hx2 : OpdE e c x2 (.int .i64 q)) : Pays U Try.prog ops Q N e ⟨some d, .build 67 #[(0, x), (1, x2)], t, p, af, g⟩ (c, .val (.agg #[.int .i64 k, .int .i64 q, .int .i64 0, .slice none 0 0, .int .i64 0, .slice none 0 0, .int .i64 0, .int .i64 0, .slice none 0 0, .slice none 0 0, .int .i64 0, .int .i64 0])) :=
  pVal hg fun e a w F hk => ⟨_, bd67_2 _ w k q (hx a w F (fun s hs => hk s (by simp [Op.operands, hs])) e) (hx2 a w F (fun s hs => hk s (by simp [Op.operands, hs])) e), rfl⟩
theorem p_bd145 {x3 x4 x5 : Operand} {a b c' d' : Int} {e' : Bool} (hg : GdE ops e g c) (hx : OpdE e c x (.int .i64 a)) (hx2 : OpdE e c x2 (.int .u64 b)) (hx3 : OpdE e c x3 (.int .i64 c')) (hx4 : OpdE e c x4 (.int .i64 d')) (hx5 : OpdE e c x5 (.bool e')) : Pays U Try.prog ops Q N e ⟨some d, .build 145 #[(0, x), (1, x2), (2, x3), (3, x4), (4, x5)], t, p, af, g⟩ (c, .st mapL ⟨a, b, c', d', e'⟩) :=
  pVal hg fun e a w F hk => ⟨_, bd145 _ w (hx a w F (fun s hs => hk s (by simp [Op.operands, hs])) e) (hx2 a w F (fun s hs => hk s (by simp [Op.operands, hs])) e) (hx3 a w F (fun s hs => hk s (by simp [Op.operands, hs])) e) (hx4 a w F (fun s hs => hk s (by simp [Op.operands, hs])) e) (hx5 a w F (fun s hs => hk s (by simp [Op.operands, hs])) e), _, rfl, (mapF w F _ _).2 rfl⟩
theorem p_arrV {i b off n : Nat} {T : TypeId} (hr : ArrRun Try.prog ⟨some d, .indexAddr T x (.const (.int .i64 i)), t, p, af, g⟩ x n) (hg : GdE ops e g c) (hx : OpdE e c x (.val (.pointer (some ⟨b, off, none⟩)))) : Pays U Try.prog ops Q N e ⟨some d, .indexAddr T x (.const (.int .i64 i)), t, p, af, g⟩ (c, .val (.pointer (some ⟨b, off + n, none⟩))) :=
  pVal hg fun e a w F hk => ⟨_, hr _ w b off (fun _ => rfl) (hx a w F (fun s hs => hk s (by simp [Op.operands, hs])) e), rfl⟩
theorem p_fi153 {j b off : Nat} (hj : j < 5) (hg : GdE ops e g c) (hx : OpdE e c x (.val (.pointer (some ⟨b, off, none⟩)))) (hx2 : OpdE e c x2 (.int .i64 j)) : Pays U Try.prog ops Q N e ⟨some d, .indexAddr 153 x x2, t, p, af, g⟩ (c, .val (.pointer (some ⟨b, off + j, none⟩))) :=
  pVal hg fun e a w F hk => ⟨_, fi_153 hj _ w b off (hx a w F (fun s hs => hk s (by simp [Op.operands, hs])) e) (hx2 a w F (fun s hs => hk s (by simp [Op.operands, hs])) e), rfl⟩
end
end
/-- The cells of an object whose rows are these. -/
abbrev obCells (o : Ob) (vl vc vd vm : Value) : Array Value := #[.int .i64 o.k, .int .i64 o.par, .int .i64 o.lab.d, vl, .int .i64 o.clr.d, vc, .int .i64 o.pg, .int .i64 o.nm, vd, vm, .int .i64 o.sp, .int .i64 o.pc]
structure ObOwn (w : World) (B : Nat) (o : Ob) (vl vc vd vm : Value) : Prop where
  l : w.ownsRow B 90 2 vl o.lab.ps.length (o.lab.ps.flatMap prE)
  c : w.ownsRow B 90 2 vc o.clr.ps.length (o.clr.ps.flatMap prE)
  d : w.ownsRow B 5 1 vd o.dat.length (o.dat.flatMap byE)
  m : w.ownsRow B 145 5 vm o.mps.length (o.mps.flatMap mapE)
theorem cTakeS {w : World} {g : Nat} {bs : List Int} {s : Nat × Bool} {n : Int} (h : Pk.RdAt w g bs s.1 s.2) (hm : bs.length ≤ 1000000) : Calls Try.prog 35 #[.pointer (some ⟨g, 0, none⟩), .int .i64 n] w fun e w' => ∃ v, e = .returned v ∧ w'.ownsRow w.heap.size 5 1 v (tkR n bs s).1.length ((tkR n bs s).1.flatMap byE) ∧ Pk.RdAt w' g bs (tkR n bs s).2.1 (tkR n bs s).2.2 ∧ w.grownBy w' (some g) := by
  obtain ⟨k, b⟩ := s
  have hl := h.at_le
  unfold tkR
  by_cases hc : b = true ∨ n < 0 ∨ (bs.length : Int) < k + n
  · rw [if_pos hc]
    refine (cTakeF h hm (n := n) (by
      rcases hc with hc | hc | hc
      · exact .inl hc
      · exact .inr (.inl hc)
      · exact .inr (.inr (by omega)))).mono ?_
    rintro _ w' ⟨rfl, h1, h2⟩
    exact ⟨_, rfl, World.ownsRow_nil _ _ _ _, h1, h2⟩
  · rw [if_neg hc]
    have hb : b = false := by cases b <;> simp_all
    subst hb
    obtain ⟨m, rfl⟩ : ∃ m : Nat, n = (m : Int) := ⟨n.toNat, by omega⟩
    simp only [Int.toNat_natCast]
    simp only at hl
    exact cTake h hm (n := m) (by omega)
section
variable {U : Prop} {Q : Exit → Act → World → Prop} {N : Nat} {e e2 : Env} {F : Cell → Prop} {a : Act} {w : World} {ops : Array Oper} {rest : List Oper} {o : Oper}
/-- A reader's call that gives a row of one's own. -/
theorem row_on {f : FuncId} {bs : List Int} {d g k n E sz : Nat} {b : Bool} {xs : List Value} (A : List Operand) (h : StE U N e F a w) (hF : ∀ o, F (g, o)) (hw : Region.wanted o (yielded ops a.tmps) = true) (hr : CallRun Try.prog o A f) (hd : o.dst = some d) (hdN : decide (d < N) = true)
    (HC : Calls Try.prog f (A.map a.eval).toArray w fun e w' => ∃ v, e = .returned v ∧ w'.ownsRow w.heap.size E sz v n xs ∧ Pk.RdAt w' g bs k b ∧ w.grownBy w' (some g))
    (hQ : ∀ v a' w', w'.ownsRow w.heap.size E sz v n xs → Pk.RdAt w' g bs k b → w.grownBy w' (some g) → StE U N ((d, true, .val v) :: e) F a' w' → wpList Try.prog ops Q rest a' w') : wpList Try.prog ops Q (o :: rest) a w := by
  refine call_on f A hw hr (HC.mono ?_)
  rintro _ w' ⟨v, rfl, h0, h1, h2⟩
  refine ⟨v, rfl, ?_⟩
  rw [hd]
  exact hQ v _ w' h0 h1 h2 ((h.wroteB h2 hF fun _ => rd_blk h1).put (Below.refl _ _) (by simpa using hdN) ⟨fun _ => rfl, fun e => by cases e⟩)
/-- A run of cells of a block of one's own is stored. -/
theorem cells_on {P : Program} {gq k : Nat} {T T' : TypeId} {z : Array Value} {v : Value} {vs : List Value} {xo yo : Operand} (hu : ¬ U) (h : StE U N e F a w) (h1 : o.op = .store T xo yo) (h2 : o.dst = none) (h3 : o.guard = none) (hx : OpdE e true xo (.val (.pointer (some ⟨gq, k, none⟩)))) (hy : OpdE e true yo (.val v)) (hvc : v.cells = vs.toArray) (hB : Blk w gq T' z) (hk : k + vs.length ≤ z.size) (hi : (P.info? T).map (·.size) = some vs.length) (hone : ∀ u ∈ vs, u.oneCell' = true) (hv : ValsB e e2)
    (hQ : ∀ a' w', Blk w' gq T' (over z k vs) → w.grownBy w' (some gq) → StE U N e2 F a' w' → wpList P ops Q rest a' w') : wpList P ops Q (o :: rest) a w := by
  have kx := hx a w F (fun s _ => h.known s) rfl
  have ky : a.eval yo = v := hy a w F (fun s _ => h.known s) rfl
  refine wpList_plain h3 fun K hK => ?_
  refine wp_store_cells T xo yo h1 gq k vs kx (by rw [ky]; exact hvc) (fun j hj => by rw [hB.cell, Array.getElem?_eq_getElem (by omega)]; rfl) (fun j hj => hB.frozen _) hi hone (hK _ _ ?_)
  rw [h2]
  have G : w.grownBy (w.setCells gq k vs) (some gq) := only_setCells vs k (only_refl w (some gq))
  exact hQ _ _ (hB.setCells vs k hk) G (h.vals ⟨fun k hk => Nat.lt_of_lt_of_le (h.fok.lt k hk) G.size, fun u => absurd u hu⟩ hv)
/-- A block's row is read outright. -/
theorem ldrowV_on {P : Program} {g d : Nat} {T Tg : TypeId} {cs : Array Value} {ty : TypeDesc} {xo : Operand} (h : StE U N e F a w) (ho : o.op = .load T xo) (hd : o.dst = some d) (hdN : decide (d < N) = true) (hgd : o.guard = none)
    (hx : OpdE e true xo (.val (.pointer (some ⟨g, 0, none⟩)))) (hB : Blk w g Tg cs) (hu : P.underlying T = some ty) (hr : ty.isRow = true) (hn : (P.info? T).map (·.size) = some cs.toList.length)
    (hQ : ∀ a', StE U N ((d, true, .val (.agg cs)) :: e) F a' w → wpList P ops Q rest a' w) : wpList P ops Q (o :: rest) a w := by
  have kx := hx a w F (fun s _ => h.known s) rfl
  refine wpList_plain hgd fun K hK => ?_
  refine wp_load_mid T xo ho g 0 kx cs.toList ty (fun j v hv => by rw [Nat.zero_add, hB.cell]; simpa using hv) hu hr hn (hK _ _ ?_)
  rw [hd]
  exact hQ _ (h.put (Below.refl _ _) (by simpa using hdN) ⟨fun _ => rfl, fun e => by cases e⟩)
theorem ldcellV_on {P : Program} {g k d : Nat} {Tg : TypeId} {cs : Array Value} {v : Value} {xo : Operand} (h : StE U N e F a w) (hd : o.dst = some d) (hdN : decide (d < N) = true) (hgd : o.guard = none)
    (hr : ∀ (ev : Operand → Value) (w : World) (b off : Nat) (v : Value), ev xo = .pointer (some ⟨b, off, none⟩) → w.cell? ⟨b, off, none⟩ = some v → (execOp ev o).run P w = .ok (.value v) w)
    (hx : OpdE e true xo (.val (.pointer (some ⟨g, k, none⟩)))) (hB : Blk w g Tg cs) (hv : cs[k]? = some v)
    (hQ : ∀ a', StE U N ((d, true, .val v) :: e) F a' w → wpList P ops Q rest a' w) : wpList P ops Q (o :: rest) a w := by
  have kx := hx a w F (fun s _ => h.known s) rfl
  refine wpList_plain hgd fun K hK => ?_
  unfold Oper.wp
  rw [hr _ w g k v kx (by rw [hB.cell]; exact hv)]
  refine hK _ _ ?_
  rw [hd]
  exact hQ _ (h.put (Below.refl _ _) (by simpa using hdN) ⟨fun _ => rfl, fun e => by cases e⟩)
/-- A loop that counts, whatever the counter's kind. -/
theorem wp_countI {P : Program} {c : Code} (n s : Nat) (I : Nat → Act → World → Prop) (hs : ∀ i a w, I i a w → intOf (a.tmps.getD s undef) = i) (h0 : I 0 a w)
    (round : ∀ i a w, i ≤ n → I i a w → c.wp P (Exit.then (fun a' w' => i < n ∧ I (i + 1) a' w') Q) a w) : (Code.loop c).wp P Q a w := by
  refine wp_loop (fun a w => ∃ i, i ≤ n ∧ I i a w) (fun a _ => n - (intOf (a.tmps.getD s undef)).toNat) ⟨0, Nat.zero_le _, h0⟩ fun a w ⟨i, hi, hI⟩ => ?_
  refine Code.wp_mono (fun e a' w' q => ?_) (round i a w hi hI)
  cases e with
  | normal =>
    obtain ⟨h1, h2⟩ := q
    refine ⟨⟨i + 1, h1, h2⟩, ?_⟩
    rw [hs _ _ _ hI, hs _ _ _ h2]
    omega
  | _ => exact q
end
/-- So many numbers of two bytes each. -/
def numsTo (bs : List Int) (s : Nat × Bool) : Nat → List Int × (Nat × Bool)
  | 0 => ([], s)
  | j + 1 => ((numsTo bs s j).1 ++ [(nx bs (numsTo bs s j).2 2).1], (nx bs (numsTo bs s j).2 2).2)
theorem numsTo_len (bs : List Int) (s : Nat × Bool) : ∀ j, (numsTo bs s j).1.length = j
  | 0 => rfl
  | j + 1 => by rw [numsTo, List.length_append, numsTo_len bs s j]; rfl
def numsA (l : List Int) : Array Value := ((l ++ List.replicate (5 - l.length) 0).map (Value.int .u64)).toArray
theorem numsA_size {l : List Int} (h : l.length ≤ 5) : (numsA l).size = 5 := by unfold numsA; simp; omega
theorem numsA_set {l : List Int} {x : Int} (h : l.length < 5) : over (numsA l) l.length [.int .u64 x] = numsA (l ++ [x]) := by
  unfold numsA
  rw [show 5 - l.length = (5 - (l ++ [x]).length) + 1 by simp; omega, List.replicate_succ, List.map_append, List.map_cons]
  have := over_at (l.map (Value.int .u64)) [Value.int .u64 0] ((List.replicate (5 - (l ++ [x]).length) 0).map (Value.int .u64)) [.int .u64 x] rfl
  rw [List.length_map] at this
  simp only [List.cons_append, List.nil_append] at this
  rw [this, List.map_append, List.map_append, List.append_assoc]
  rfl
theorem nx2 {bs : List Int} (hB : Pk.Byt bs) (s : Nat × Bool) : 0 ≤ (nx bs s 2).1 ∧ (nx bs s 2).1 < 65536 := nx_bd hB s 2
theorem i64_id {x n : Int} (h : 0 ≤ x ∧ x < n) (hn : n ≤ 4294967296 := by decide) : IntKind.i64.wrap x = x := by rw [IntKind.wrap_i64]; omega
/-- A map is read. -/
theorem map_read {bs : List Int} {s : Nat × Bool} : mapR5 bs s = (mapOf ((nx bs s 2).1, (nx bs (nx bs s 2).2 2).1, (nx bs (nx bs (nx bs s 2).2 2).2 2).1, (nx bs (nx bs (nx bs (nx bs s 2).2 2).2 2).2 2).1, (nx bs (nx bs (nx bs (nx bs (nx bs s 2).2 2).2 2).2 2).2 2).1), if (nx bs (nx bs (nx bs (nx bs (nx bs s 2).2 2).2 2).2 2).2 2).1 ≤ 1 then (numsTo bs s 5).2 else ((numsTo bs s 5).2.1, true)) := by
  have e : fiveR bs s = (((nx bs s 2).1, (nx bs (nx bs s 2).2 2).1, (nx bs (nx bs (nx bs s 2).2 2).2 2).1, (nx bs (nx bs (nx bs (nx bs s 2).2 2).2 2).2 2).1, (nx bs (nx bs (nx bs (nx bs (nx bs s 2).2 2).2 2).2 2).2 2).1), (numsTo bs s 5).2) := rfl
  unfold mapR5 mapR chkR
  rw [e]
  simp only [decide_eq_true_eq]
  split <;> rfl
theorem ob_read {bs : List Int} {s : Nat × Bool} : obR bs s = (obOf ((nx bs s 1).1, (nx bs (nx bs s 1).2 1).1, (labX bs (nx bs (nx bs s 1).2 1).2).1, (bdR (nx bs s 1).1 bs (labX bs (nx bs (nx bs s 1).2 1).2).2).1), (bdR (nx bs s 1).1 bs (labX bs (nx bs (nx bs s 1).2 1).2).2).2) := rfl
theorem bd_1 {k : Int} (h : k = 1) (bs : List Int) (s : Nat × Bool) : bdR k bs s = (bd1 ((nx bs s 2).1, (nx bs (nx bs s 2).2 4).1), (nx bs (nx bs s 2).2 4).2) := by unfold bdR; rw [if_pos h]; rfl
theorem bd_2 {k : Int} (h : k = 2) (bs : List Int) (s : Nat × Bool) : bdR k bs s = (bd2 ((nx bs s 1).1, (nx bs (nx bs s 1).2 2).1, (tkR (nx bs (nx bs s 1).2 2).1 bs (nx bs (nx bs s 1).2 2).2).1), (tkR (nx bs (nx bs s 1).2 2).1 bs (nx bs (nx bs s 1).2 2).2).2) := by unfold bdR; rw [if_neg (by omega), if_pos h]; rfl
theorem bd_4 {k : Int} (h : k = 4) (bs : List Int) (s : Nat × Bool) : bdR k bs s = (bd4 ((nx bs s 1).1, (manyR mapR5 (nx bs s 1).1.toNat bs (nx bs s 1).2).1), (manyR mapR5 (nx bs s 1).1.toNat bs (nx bs s 1).2).2) := by unfold bdR; rw [if_neg (by omega), if_neg (by omega), if_pos h]; rfl
theorem bd_3 {k : Int} (h : k = 3 ∨ k = 5) (bs : List Int) (s : Nat × Bool) : bdR k bs s = (bd3 ((labX bs s).1, (nx bs (labX bs s).2 1).1, (nx bs (nx bs (labX bs s).2 1).2 4).1), (nx bs (nx bs (labX bs s).2 1).2 4).2) := by unfold bdR; rw [if_neg (by omega), if_neg (by omega), if_neg (by omega), if_pos h]; rfl
theorem bd_6 {k : Int} (h : k = 6) (bs : List Int) (s : Nat × Bool) : bdR k bs s = (bd0, s) := by unfold bdR; rw [if_neg (by omega), if_neg (by omega), if_neg (by omega), if_neg (by omega), if_pos h]; rfl
theorem bd_0 {k : Int} (h1 : ¬ k = 1) (h2 : ¬ k = 2) (h4 : ¬ k = 4) (h3 : ¬ (k = 3 ∨ k = 5)) (h6 : ¬ k = 6) (bs : List Int) (s : Nat × Bool) : bdR k bs s = (bd0, (s.1, true)) := by unfold bdR; rw [if_neg h1, if_neg h2, if_neg h4, if_neg h3, if_neg h6]; rfl
theorem sz_23 : (Try.prog.info? 23).map (·.size) = some 1 := by kernel_rfl
theorem obL_ones {k p l c pg nm sp pc : Int} {vl vc vd vm : Value} (h1 : vl.oneCell' = true) (h2 : vc.oneCell' = true) (h3 : vd.oneCell' = true) (h4 : vm.oneCell' = true) : ∀ u ∈ (#[.int .i64 k, .int .i64 p, .int .i64 l, vl, .int .i64 c, vc, .int .i64 pg, .int .i64 nm, vd, vm, .int .i64 sp, .int .i64 pc] : Array Value).toList, u.oneCell' = true := by
  intro u hu
  simp only [List.mem_cons, List.not_mem_nil, or_false] at hu
  rcases hu with rfl | rfl | rfl | rfl | rfl | rfl | rfl | rfl | rfl | rfl | rfl | rfl <;> first | rfl | assumption
structure MPK (w : World) (g g2 g3 n : Nat) (x1 x2 : Int) (l1 : Lab) (vl : Value) (bs : List Int) (t4 : Nat × Bool) (i : Nat) (v : Value) (ms : List M) (s : Nat × Bool) (wr : World) : Prop where
  rd : Pk.RdAt wr g bs s.1 s.2
  k2 : Blk wr g2 67 #[.int .i64 0, .int .i64 0, .int .i64 0, .slice none 0 0, .int .i64 0, .slice none 0 0, .int .i64 0, .int .i64 0, .slice none 0 0, .slice none 0 0, .int .i64 0, .int .i64 0]
  k3 : Blk wr g3 67 #[.int .i64 x1, .int .i64 x2, .int .i64 l1.d, vl, .int .i64 0, .slice none 0 0, .int .i64 0, .int .i64 0, .slice none 0 0, v, .int .i64 0, .int .i64 0]
  ol : wr.ownsRow w.heap.size 90 2 vl l1.ps.length (l1.ps.flatMap prE)
  ow : wr.ownsRow w.heap.size 145 5 v ms.length (ms.flatMap mapE)
  eq : manyR mapR5 n bs t4 = (ms ++ (manyR mapR5 (n - i) bs s).1, (manyR mapR5 (n - i) bs s).2)
  len : ms.length = i
  z : w.grownBy wr (some g)
def MPI (w : World) (g g2 g3 n : Nat) (x1 x2 : Int) (l1 : Lab) (vl : Value) (bs : List Int) (t4 : Nat × Bool) (i : Nat) (a : Act) (wr : World) : Prop := ∃ v ms s, MPK w g g2 g3 n x1 x2 l1 vl bs t4 i v ms s wr ∧ StE False 102 [(0, true, .val (.pointer (some ⟨g, 0, none⟩))), (2, true, .val (.pointer (some ⟨g2, 0, none⟩))), (3, true, .val (.pointer (some ⟨g3, 0, none⟩))), (48, true, .int .u64 (n : Int)), (49, true, .int .u64 (i : Int))] (AtB g) a wr
structure MJK (w : World) (g g2 g3 g4 : Nat) (x1 x2 : Int) (l1 : Lab) (vl v : Value) (ms : List M) (bs : List Int) (s : Nat × Bool) (j : Nat) (wr : World) : Prop where
  rd : Pk.RdAt wr g bs (numsTo bs s j).2.1 (numsTo bs s j).2.2
  k2 : Blk wr g2 67 #[.int .i64 0, .int .i64 0, .int .i64 0, .slice none 0 0, .int .i64 0, .slice none 0 0, .int .i64 0, .int .i64 0, .slice none 0 0, .slice none 0 0, .int .i64 0, .int .i64 0]
  k3 : Blk wr g3 67 #[.int .i64 x1, .int .i64 x2, .int .i64 l1.d, vl, .int .i64 0, .slice none 0 0, .int .i64 0, .int .i64 0, .slice none 0 0, v, .int .i64 0, .int .i64 0]
  k4 : Blk wr g4 153 (numsA (numsTo bs s j).1)
  ol : wr.ownsRow w.heap.size 90 2 vl l1.ps.length (l1.ps.flatMap prE)
  ow : wr.ownsRow w.heap.size 145 5 v ms.length (ms.flatMap mapE)
  z : w.grownBy wr (some g)
def MJI (w : World) (g g2 g3 g4 n : Nat) (x1 x2 : Int) (l1 : Lab) (vl v : Value) (ms : List M) (bs : List Int) (s : Nat × Bool) (i j : Nat) (a : Act) (wr : World) : Prop := MJK w g g2 g3 g4 x1 x2 l1 vl v ms bs s j wr ∧ StE False 102 [(0, true, .val (.pointer (some ⟨g, 0, none⟩))), (2, true, .val (.pointer (some ⟨g2, 0, none⟩))), (3, true, .val (.pointer (some ⟨g3, 0, none⟩))), (4, true, .val (.pointer (some ⟨g4, 0, none⟩))), (48, true, .int .u64 (n : Int)), (49, true, .int .u64 (i : Int)), (53, true, .int .i64 (j : Int))] (AtB g) a wr
theorem b_add_23 {d : Nat} {t : TypeId} {p : String} {af : Array Edge} {g : Option (Nat × Bool)} {x x2 : Operand} {a b : Int} : Run2 Try.prog ⟨some d, .binOp .add 23 x x2 23, t, p, af, g⟩ x x2 (.int .u64 a) (.int .u64 b) (.int .u64 (IntKind.u64.wrap (a + b))) := fun ev w h1 h2 => by go_simp
end Go.Proofs.Ytihddficgpjgpaa.Y
namespace Go.Proofs.Ytihddficgpjgpaa.Y
open Go.RowKit Go.ChangeShapes Go.WideShapes Go.ChangeAt
set_option maxRecDepth 100000 in
set_option maxHeartbeats 3200000 in
/-- A reader's next object. -/
theorem cRead {w : World} {g : Nat} {bs : List Int} {k : Nat} {b : Bool} (rd : Pk.RdAt w g bs k b) (hB : Pk.Byt bs) (hm : bs.length ≤ 1000000) : Calls Try.prog 117 #[.pointer (some ⟨g, 0, none⟩)] w fun e w' => ∃ vl vc vd vm, e = .returned (.agg (obCells (obR bs (k, b)).1 vl vc vd vm)) ∧ ObOwn w' w.heap.size (obR bs (k, b)).1 vl vc vd vm ∧ Pk.RdAt w' g bs (obR bs (k, b)).2.1 (obR bs (k, b)).2.2 ∧ w.grownBy w' (some g) := by
  have hg := rd.lt
  obtain ⟨i3, hm0, hm1, hm2, hm3⟩ := info_parts Try.info145s
  go_enter Try.func117, Try.ntmps117
  refine wp_seq ?_
  refine wp_region_lit ?_
  show wpList _ _ _ (_ :: _) _ _
  refine with_st (st0 (U := False) (N := 102) (e := [(0, true, .val (.pointer (some ⟨g, 0, none⟩)))]) (F := AtB g) rfl rfl (fok_at hg) ⟨⟨rfl, rfl⟩, True.intro⟩) fun s0 => ?_
  refine alloc_on (u := 67) (z := #[.int .i64 0, .int .i64 0, .int .i64 0, .slice none 0 0, .int .i64 0, .slice none 0 0, .int .i64 0, .int .i64 0, .slice none 0 0, .slice none 0 0, .int .i64 0, .int .i64 0]) id s0 rfl (by decide) rfl (fun ev w => al_67 ev w) fun g2 a1 w1 k2 hg20 b1 s1 => ?_
  have hg2 := Nat.le_trans (Nat.le_refl _) hg20
  have z1 := only_of_below b1 (some g)
  have rd := rd.below b1
  refine wpList_done ?_
  refine wp_seq ?_
  refine wp_region_lit ?_
  refine chainK 1 (cc rfl (p_move g0 (od rfl id)) cn) (by kernel_rfl) (s1.keep (sc 0 rfl (sc 2 rfl sn))) fun a2 w2 b2 s2 => ?_
  have z2 := only_trans z1 (only_of_below b2 (some g))
  have rd := rd.below b2
  have k2 := k2.below b2 k2.lt
  show wpList _ _ _ (_ :: _) _ _
  have q6 : a2.tmps.getD 6 undef = .pointer (some ⟨g, 0, none⟩) := s2.get 6 rfl
  refine rd_on [.tmp 6, .const (.int .i64 1)] s2 (fun _ => rfl) (by simp [Region.wanted]) (fun _ _ => by kernel_rfl) rfl (by decide) (show Calls Try.prog 32 #[a2.tmps.getD 6 undef, .int .i64 1] w2 _ from by rw [q6]; exact cNumS (s := (k, b)) rd hB hm (n := 1) (by decide) (by decide)) fun a3 w3 rd g3 s3 => ?_
  have k2 := k2.grown g3 (by simp; omega)
  have z3 := only_trans z2 g3
  have bx1 := nx_bd hB (k, b) 1
  obtain ⟨x1, ex1⟩ : ∃ x, x = (nx bs (k, b) 1).1 := ⟨_, rfl⟩
  obtain ⟨t1, et1⟩ : ∃ x, x = (nx bs (k, b) 1).2 := ⟨_, rfl⟩
  rw [← et1] at rd
  rw [← ex1] at s3 bx1
  have bx1 : 0 ≤ x1 ∧ x1 < 256 := bx1
  have ix1 := i64_id bx1
  refine chainK 2 (cc rfl (p_cvE (n' := x1) ix1 g0 (od rfl id) cv_23_3)
      (cc rfl (p_move g0 (od rfl id)) cn)) (by kernel_rfl) s3 fun a4 w4 b4 s4 => ?_
  have z4 := only_trans z3 (only_of_below b4 (some g))
  have rd := rd.below b4
  have k2 := k2.below b4 k2.lt
  show wpList _ _ _ (_ :: _) _ _
  have q9 : a4.tmps.getD 9 undef = .pointer (some ⟨g, 0, none⟩) := s4.get 9 rfl
  refine rd_on [.tmp 9, .const (.int .i64 1)] s4 (fun _ => rfl) (by simp [Region.wanted]) (fun _ _ => by kernel_rfl) rfl (by decide) (show Calls Try.prog 32 #[a4.tmps.getD 9 undef, .int .i64 1] w4 _ from by rw [q9]; exact cNumS (s := t1) rd hB hm (n := 1) (by decide) (by decide)) fun a5 w5 rd g5 s5 => ?_
  have k2 := k2.grown g5 (by simp; omega)
  have z5 := only_trans z4 g5
  have bx2 := nx_bd hB t1 1
  obtain ⟨x2, ex2⟩ : ∃ x, x = (nx bs t1 1).1 := ⟨_, rfl⟩
  obtain ⟨t2, et2⟩ : ∃ x, x = (nx bs t1 1).2 := ⟨_, rfl⟩
  rw [← et2] at rd
  rw [← ex2] at s5 bx2
  have bx2 : 0 ≤ x2 ∧ x2 < 256 := bx2
  have ix2 := i64_id bx2
  refine chainK 2 (cc rfl (p_cvE (n' := x2) ix2 g0 (od rfl id) cv_23_3)
      (cc rfl (p_bd67_2 g0 (od rfl id) (od rfl id)) cn)) (by kernel_rfl) s5 fun a6 w6 b6 s6 => ?_
  have z6 := only_trans z5 (only_of_below b6 (some g))
  have rd := rd.below b6
  have k2 := k2.below b6 k2.lt
  show wpList _ _ _ (_ :: _) _ _
  refine alloc_on (u := 67) (z := #[.int .i64 0, .int .i64 0, .int .i64 0, .slice none 0 0, .int .i64 0, .slice none 0 0, .int .i64 0, .int .i64 0, .slice none 0 0, .slice none 0 0, .int .i64 0, .int .i64 0]) id s6 rfl (by decide) rfl (fun ev w => al_67 ev w) fun g3 a7 w7 k3 hg30 b7 s7 => ?_
  have hg2g3 : g2 < g3 := Nat.lt_of_lt_of_le k2.lt hg30
  have hg3 := Nat.le_trans z6.size hg30
  have z7 := only_trans z6 (only_of_below b7 (some g))
  have rd := rd.below b7
  have k2 := k2.below b7 k2.lt
  show wpList _ _ _ (_ :: _) _ _
  refine cells_on (vs := [.int .i64 x1, .int .i64 x2, .int .i64 0, .slice none 0 0, .int .i64 0, .slice none 0 0, .int .i64 0, .int .i64 0, .slice none 0 0, .slice none 0 0, .int .i64 0, .int .i64 0]) id s7 rfl rfl rfl (od rfl id) (od rfl id) rfl k3 (by simp) sz_67 (by simp [Value.oneCell']) (vv 0 rfl (vv 2 rfl (vv 3 rfl vn))) fun a8 w8 k3 g8 s8 => ?_
  have k3 : Blk w8 g3 67 #[.int .i64 x1, .int .i64 x2, .int .i64 0, .slice none 0 0, .int .i64 0, .slice none 0 0, .int .i64 0, .int .i64 0, .slice none 0 0, .slice none 0 0, .int .i64 0, .int .i64 0] := k3
  have k2 := k2.grown g8 (by simp; omega)
  have rd := rd_grownO rd g8 (fun x e => by cases e; omega)
  have z8 := grown_far z7 g8 (fun x e => by cases e; exact hg3)
  refine wpList_done ?_
  refine wp_seq ?_
  refine wp_region_lit ?_
  refine chainK 1 (cc rfl (p_move g0 (od rfl id)) cn) (by kernel_rfl) (s8.keep (sc 0 rfl (sc 2 rfl (sc 3 rfl sn)))) fun a9 w9 b9 s9 => ?_
  have z9 := only_trans z8 (only_of_below b9 (some g))
  have rd := rd.below b9
  have k2 := k2.below b9 k2.lt
  have k3 := k3.below b9 k3.lt
  show wpList _ _ _ (_ :: _) _ _
  have q13 : a9.tmps.getD 13 undef = .pointer (some ⟨g, 0, none⟩) := s9.get 13 rfl
  refine lab_on [.tmp 13] s9 (fun _ => rfl) (by simp [Region.wanted]) (fun _ _ => by kernel_rfl) rfl (by decide) (show Calls Try.prog 40 #[a9.tmps.getD 13 undef] w9 _ from by rw [q13]; exact cLab (k := t2.1) (b := t2.2) rd hB hm) fun vl hxvl a10 w10 ovl rd g10 s10 => ?_
  have k2 := k2.grown g10 (by simp; omega)
  have k3 := k3.grown g10 (by simp; omega)
  have ovl := own_mono ovl z9.size
  have z10 := only_trans z9 g10
  obtain ⟨l1, el1⟩ : ∃ x, x = (labX bs t2).1 := ⟨_, rfl⟩
  obtain ⟨t3, et3⟩ : ∃ x, x = (labX bs t2).2 := ⟨_, rfl⟩
  change Pk.RdAt w10 g bs (labX bs t2).2.1 (labX bs t2).2.2 at rd
  rw [← et3] at rd
  have hvvl : a10.tmps.getD 14 undef = .agg #[.int .i64 (labX bs t2).1.d, vl] := by obtain ⟨cs, q1, q2⟩ := s10.get 14 rfl; obtain rfl : cs = _ := q2; exact q1
  have s10 := s10.more 14 (y := .val (.agg #[.int .i64 (labX bs t2).1.d, vl])) hvvl
  have s10 := s10.keep (sc 0 rfl (sc 2 rfl (sc 3 rfl (sc 13 rfl (sc 14 rfl sn)))))
  have hxvl := ex_ok (labX bs t2).1.d ovl
  change w10.ownsRow _ 90 2 vl (labX bs t2).1.ps.length ((labX bs t2).1.ps.flatMap prE) at ovl
  rw [← el1] at s10 ovl hxvl
  refine chainK 1 (cc rfl (p_faV0 fa_67_2 g0 (od rfl id)) cn) (by kernel_rfl) s10 fun a11 w11 b11 s11 => ?_
  have z11 := only_trans z10 (only_of_below b11 (some g))
  have rd := rd.below b11
  have k2 := k2.below b11 k2.lt
  have k3 := k3.below b11 k3.lt
  have ovl := own_below ovl b11
  show wpList _ _ _ (_ :: _) _ _
  have hnovl := own_ne ovl k3 (by decide)
  refine cells_on (vs := [.int .i64 l1.d, vl]) id s11 rfl rfl rfl (od rfl id) (od rfl id) rfl k3 (by simp) sz_39 hxvl (vv 0 rfl (vv 2 rfl (vv 3 rfl vn))) fun a12 w12 k3 g12 s12 => ?_
  have k3 : Blk w12 g3 67 #[.int .i64 x1, .int .i64 x2, .int .i64 l1.d, vl, .int .i64 0, .slice none 0 0, .int .i64 0, .int .i64 0, .slice none 0 0, .slice none 0 0, .int .i64 0, .int .i64 0] := k3
  have k2 := k2.grown g12 (by simp; omega)
  have ovl := own_grown3 ovl g12 hnovl
  have rd := rd_grownO rd g12 (fun x e => by cases e; omega)
  have z12 := grown_far z11 g12 (fun x e => by cases e; exact hg3)
  refine wpList_done ?_
  refine wp_seq ?_
  refine wp_seq ?_
  refine wp_region_lit ?_
  refine chainK 1 (cc rfl (p_faV0 fa_67_0 g0 (od rfl id)) cn) (by kernel_rfl) (s12.keep (sc 0 rfl (sc 2 rfl (sc 3 rfl sn)))) fun a13 w13 b13 s13 => ?_
  have z13 := only_trans z12 (only_of_below b13 (some g))
  have rd := rd.below b13
  have k2 := k2.below b13 k2.lt
  have k3 := k3.below b13 k3.lt
  have ovl := own_below ovl b13
  show wpList _ _ _ (_ :: _) _ _
  refine ldcellV_on (k := 0) (v := .int .i64 x1) s13 rfl (by decide) rfl (fun ev w b off v h1 h2 => ld_3 ev w b off v h1 h2) (od rfl id) k3 rfl fun a14 s14 => ?_
  have z14 := z13
  refine wpList_done ?_
  refine wp_block ?_
  refine wp_seq ?_
  refine flowC mixed (s14.keep (sc 0 rfl (sc 2 rfl (sc 3 rfl (sc 17 rfl sn))))) (by kernel_rfl) (by kernel_rfl) (cc rfl (p_bin g0 (od rfl id) (oc _) b_eql_3)
      (cc rfl (p_assign g0 (od rfl id)) cn)) fun a15 w15 b15 s15 => ?_
  have z15 := only_trans z14 (only_of_below b15 (some g))
  have rd := rd.below b15
  have k2 := k2.below b15 k2.lt
  have k3 := k3.below b15 k3.lt
  have ovl := own_below ovl b15
  refine s15.cond 23 rfl (fun h23 => ?_) (fun h23 => ?_)
  · -- true
    have p1 : x1 = 1 := by simpa using h23
    refine wp_region_lit ?_
    refine chainK 1 (cc rfl (p_move g0 (od rfl id)) cn) (by kernel_rfl) (s15.keep (sc 0 rfl (sc 2 rfl (sc 3 rfl sn)))) fun a16 w16 b16 s16 => ?_
    have z16 := only_trans z15 (only_of_below b16 (some g))
    have rd := rd.below b16
    have k2 := k2.below b16 k2.lt
    have k3 := k3.below b16 k3.lt
    have ovl := own_below ovl b16
    show wpList _ _ _ (_ :: _) _ _
    have q25 : a16.tmps.getD 25 undef = .pointer (some ⟨g, 0, none⟩) := s16.get 25 rfl
    refine rd_on [.tmp 25, .const (.int .i64 2)] s16 (fun _ => rfl) (by simp [Region.wanted]) (fun _ _ => by kernel_rfl) rfl (by decide) (show Calls Try.prog 32 #[a16.tmps.getD 25 undef, .int .i64 2] w16 _ from by rw [q25]; exact cNumS (s := t3) rd hB hm (n := 2) (by decide) (by decide)) fun a17 w17 rd g17 s17 => ?_
    have k2 := k2.grown g17 (by simp; omega)
    have k3 := k3.grown g17 (by simp; omega)
    have ovl := own_grown ovl g17 hg
    have z17 := only_trans z16 g17
    have bx4 := nx_bd hB t3 2
    obtain ⟨x4, ex4⟩ : ∃ x, x = (nx bs t3 2).1 := ⟨_, rfl⟩
    obtain ⟨t4, et4⟩ : ∃ x, x = (nx bs t3 2).2 := ⟨_, rfl⟩
    rw [← et4] at rd
    rw [← ex4] at s17 bx4
    have bx4 : 0 ≤ x4 ∧ x4 < 65536 := bx4
    have ix4 := i64_id bx4
    refine chainK 2 (cc rfl (p_cvE (n' := x4) ix4 g0 (od rfl id) cv_23_3)
        (cc rfl (p_move g0 (od rfl id)) cn)) (by kernel_rfl) s17 fun a18 w18 b18 s18 => ?_
    have z18 := only_trans z17 (only_of_below b18 (some g))
    have rd := rd.below b18
    have k2 := k2.below b18 k2.lt
    have k3 := k3.below b18 k3.lt
    have ovl := own_below ovl b18
    show wpList _ _ _ (_ :: _) _ _
    have q28 : a18.tmps.getD 28 undef = .pointer (some ⟨g, 0, none⟩) := s18.get 28 rfl
    refine rd_on [.tmp 28, .const (.int .i64 4)] s18 (fun _ => rfl) (by simp [Region.wanted]) (fun _ _ => by kernel_rfl) rfl (by decide) (show Calls Try.prog 32 #[a18.tmps.getD 28 undef, .int .i64 4] w18 _ from by rw [q28]; exact cNumS (s := t4) rd hB hm (n := 4) (by decide) (by decide)) fun a19 w19 rd g19 s19 => ?_
    have k2 := k2.grown g19 (by simp; omega)
    have k3 := k3.grown g19 (by simp; omega)
    have ovl := own_grown ovl g19 hg
    have z19 := only_trans z18 g19
    have bx5 := nx_bd hB t4 4
    obtain ⟨x5, ex5⟩ : ∃ x, x = (nx bs t4 4).1 := ⟨_, rfl⟩
    obtain ⟨t5, et5⟩ : ∃ x, x = (nx bs t4 4).2 := ⟨_, rfl⟩
    rw [← et5] at rd
    rw [← ex5] at s19 bx5
    have bx5 : 0 ≤ x5 ∧ x5 < 4294967296 := bx5
    have ix5 := i64_id bx5
    refine chainK 2 (cc rfl (p_cvE (n' := x5) ix5 g0 (od rfl id) cv_23_3)
        (cc rfl (p_faV0 fa_67_4 g0 (od rfl id)) cn)) (by kernel_rfl) s19 fun a20 w20 b20 s20 => ?_
    have z20 := only_trans z19 (only_of_below b20 (some g))
    have rd := rd.below b20
    have k2 := k2.below b20 k2.lt
    have k3 := k3.below b20 k3.lt
    have ovl := own_below ovl b20
    show wpList _ _ _ (_ :: _) _ _
    have hnovl := own_ne ovl k3 (by decide)
    refine cells_on (vs := [.int .i64 x4]) id s20 rfl rfl rfl (od rfl id) (od rfl id) rfl k3 (by simp) sz_3 (by simp [Value.oneCell']) (vv 0 rfl (vv 2 rfl (vv 3 rfl (vv 30 rfl vn)))) fun a21 w21 k3 g21 s21 => ?_
    have k3 : Blk w21 g3 67 #[.int .i64 x1, .int .i64 x2, .int .i64 l1.d, vl, .int .i64 0, .slice none 0 0, .int .i64 x4, .int .i64 0, .slice none 0 0, .slice none 0 0, .int .i64 0, .int .i64 0] := k3
    have k2 := k2.grown g21 (by simp; omega)
    have ovl := own_grown3 ovl g21 hnovl
    have rd := rd_grownO rd g21 (fun x e => by cases e; omega)
    have z21 := grown_far z20 g21 (fun x e => by cases e; exact hg3)
    refine chainK 1 (cc rfl (p_faV0 fa_67_5 g0 (od rfl id)) cn) (by kernel_rfl) s21 fun a22 w22 b22 s22 => ?_
    have z22 := only_trans z21 (only_of_below b22 (some g))
    have rd := rd.below b22
    have k2 := k2.below b22 k2.lt
    have k3 := k3.below b22 k3.lt
    have ovl := own_below ovl b22
    show wpList _ _ _ (_ :: _) _ _
    have hnovl := own_ne ovl k3 (by decide)
    refine cells_on (vs := [.int .i64 x5]) id s22 rfl rfl rfl (od rfl id) (od rfl id) rfl k3 (by simp) sz_3 (by simp [Value.oneCell']) (vv 0 rfl (vv 2 rfl (vv 3 rfl vn))) fun a23 w23 k3 g23 s23 => ?_
    have k3 : Blk w23 g3 67 #[.int .i64 x1, .int .i64 x2, .int .i64 l1.d, vl, .int .i64 0, .slice none 0 0, .int .i64 x4, .int .i64 x5, .slice none 0 0, .slice none 0 0, .int .i64 0, .int .i64 0] := k3
    have k2 := k2.grown g23 (by simp; omega)
    have ovl := own_grown3 ovl g23 hnovl
    have rd := rd_grownO rd g23 (fun x e => by cases e; omega)
    have z23 := grown_far z22 g23 (fun x e => by cases e; exact hg3)
    refine wpList_done ?_
    refine wp_seq ?_
    refine wp_region_lit ?_
    show wpList _ _ _ (_ :: _) _ _
    have s23 := (s23.keep (sc 2 rfl (sc 3 rfl sn)))
    refine ldrowV_on s23 rfl rfl (by decide) rfl (od rfl id) k3 u_67 ur_67 sz_67 fun a24 s24 => ?_
    have z24 := z23
    show wpList _ _ _ (_ :: _) _ _
    have hnovl := own_ne ovl k2 (by decide)
    refine cells_on (vs := (#[.int .i64 x1, .int .i64 x2, .int .i64 l1.d, vl, .int .i64 0, .slice none 0 0, .int .i64 x4, .int .i64 x5, .slice none 0 0, .slice none 0 0, .int .i64 0, .int .i64 0] : Array Value).toList) id s24 rfl rfl rfl (od rfl id) (od rfl id) rfl k2 (by simp) sz_67 (obL_ones (slice_one ovl).1 rfl rfl rfl) (vv 2 rfl vn) fun a25 w25 k2 g25 s25 => ?_
    have k2 : Blk w25 g2 67 #[.int .i64 x1, .int .i64 x2, .int .i64 l1.d, vl, .int .i64 0, .slice none 0 0, .int .i64 x4, .int .i64 x5, .slice none 0 0, .slice none 0 0, .int .i64 0, .int .i64 0] := k2
    have k3 := k3.grown g25 (by simp; omega)
    have ovl := own_grown3 ovl g25 hnovl
    have rd := rd_grownO rd g25 (fun x e => by cases e; omega)
    have z25 := grown_far z24 g25 (fun x e => by cases e; exact hg2)
    refine wpList_done ?_
    have hX : obR bs (k, b) = (obOf (x1, x2, l1, (bdR x1 bs t3).1), (bdR x1 bs t3).2) := by rw [ob_read, ← ex1, ← et1, ← ex2, ← et2, ← el1, ← et3]
    rw [bd_1 p1, ← ex4, ← et4, ← ex5, ← et5] at hX
    rw [hX]
    refine wp_ret ?_
    exact bodyPost_ret (results_cell_row rfl _ _ g2 67 #[.int .i64 x1, .int .i64 x2, .int .i64 l1.d, vl, .int .i64 0, .slice none 0 0, .int .i64 x4, .int .i64 x5, .slice none 0 0, .slice none 0 0, .int .i64 0, .int .i64 0] (0, 0) _ (s25.get 2 rfl) k2 u_67 (by kernel_rfl) (by kernel_rfl)) s25.defers ⟨vl, .slice none 0 0, .slice none 0 0, .slice none 0 0, rfl, ⟨ovl, (World.ownsRow_nil _ _ _ _), (World.ownsRow_nil _ _ _ _), (World.ownsRow_nil _ _ _ _)⟩, rd, z25⟩
  · -- false
    have p1 : ¬ x1 = 1 := by simpa using h23
    refine wp_seq ?_
    refine flowC mixed (s15.keep (sc 0 rfl (sc 2 rfl (sc 3 rfl (sc 17 rfl sn))))) (by kernel_rfl) (by kernel_rfl) (cc rfl (p_bin g0 (od rfl id) (oc _) b_eql_3)
        (cc rfl (p_assign g0 (od rfl id)) cn)) fun a26 w26 b26 s26 => ?_
    have z26 := only_trans z15 (only_of_below b26 (some g))
    have rd := rd.below b26
    have k2 := k2.below b26 k2.lt
    have k3 := k3.below b26 k3.lt
    have ovl := own_below ovl b26
    refine s26.cond 33 rfl (fun h33 => ?_) (fun h33 => ?_)
    · -- true
      have p2 : x1 = 2 := by simpa using h33
      refine wp_seq ?_
      refine wp_region_lit ?_
      refine chainK 1 (cc rfl (p_move g0 (od rfl id)) cn) (by kernel_rfl) (s26.keep (sc 0 rfl (sc 2 rfl (sc 3 rfl sn)))) fun a27 w27 b27 s27 => ?_
      have z27 := only_trans z26 (only_of_below b27 (some g))
      have rd := rd.below b27
      have k2 := k2.below b27 k2.lt
      have k3 := k3.below b27 k3.lt
      have ovl := own_below ovl b27
      show wpList _ _ _ (_ :: _) _ _
      have q35 : a27.tmps.getD 35 undef = .pointer (some ⟨g, 0, none⟩) := s27.get 35 rfl
      refine rd_on [.tmp 35, .const (.int .i64 1)] s27 (fun _ => rfl) (by simp [Region.wanted]) (fun _ _ => by kernel_rfl) rfl (by decide) (show Calls Try.prog 32 #[a27.tmps.getD 35 undef, .int .i64 1] w27 _ from by rw [q35]; exact cNumS (s := t3) rd hB hm (n := 1) (by decide) (by decide)) fun a28 w28 rd g28 s28 => ?_
      have k2 := k2.grown g28 (by simp; omega)
      have k3 := k3.grown g28 (by simp; omega)
      have ovl := own_grown ovl g28 hg
      have z28 := only_trans z27 g28
      have bx4 := nx_bd hB t3 1
      obtain ⟨x4, ex4⟩ : ∃ x, x = (nx bs t3 1).1 := ⟨_, rfl⟩
      obtain ⟨t4, et4⟩ : ∃ x, x = (nx bs t3 1).2 := ⟨_, rfl⟩
      rw [← et4] at rd
      rw [← ex4] at s28 bx4
      have bx4 : 0 ≤ x4 ∧ x4 < 256 := bx4
      have ix4 := i64_id bx4
      refine chainK 2 (cc rfl (p_cvE (n' := x4) ix4 g0 (od rfl id) cv_23_3)
          (cc rfl (p_faV0 fa_67_4 g0 (od rfl id)) cn)) (by kernel_rfl) s28 fun a29 w29 b29 s29 => ?_
      have z29 := only_trans z28 (only_of_below b29 (some g))
      have rd := rd.below b29
      have k2 := k2.below b29 k2.lt
      have k3 := k3.below b29 k3.lt
      have ovl := own_below ovl b29
      show wpList _ _ _ (_ :: _) _ _
      have hnovl := own_ne ovl k3 (by decide)
      refine cells_on (vs := [.int .i64 x4]) id s29 rfl rfl rfl (od rfl id) (od rfl id) rfl k3 (by simp) sz_3 (by simp [Value.oneCell']) (vv 0 rfl (vv 2 rfl (vv 3 rfl vn))) fun a30 w30 k3 g30 s30 => ?_
      have k3 : Blk w30 g3 67 #[.int .i64 x1, .int .i64 x2, .int .i64 l1.d, vl, .int .i64 0, .slice none 0 0, .int .i64 x4, .int .i64 0, .slice none 0 0, .slice none 0 0, .int .i64 0, .int .i64 0] := k3
      have k2 := k2.grown g30 (by simp; omega)
      have ovl := own_grown3 ovl g30 hnovl
      have rd := rd_grownO rd g30 (fun x e => by cases e; omega)
      have z30 := grown_far z29 g30 (fun x e => by cases e; exact hg3)
      refine wpList_done ?_
      refine wp_region_lit ?_
      refine chainK 2 (cc rfl (p_move g0 (od rfl id))
          (cc rfl (p_move g0 (od rfl id)) cn)) (by kernel_rfl) (s30.keep (sc 0 rfl (sc 2 rfl (sc 3 rfl sn)))) fun a31 w31 b31 s31 => ?_
      have z31 := only_trans z30 (only_of_below b31 (some g))
      have rd := rd.below b31
      have k2 := k2.below b31 k2.lt
      have k3 := k3.below b31 k3.lt
      have ovl := own_below ovl b31
      show wpList _ _ _ (_ :: _) _ _
      have q40 : a31.tmps.getD 40 undef = .pointer (some ⟨g, 0, none⟩) := s31.get 40 rfl
      refine rd_on [.tmp 40, .const (.int .i64 2)] s31 (fun _ => rfl) (by simp [Region.wanted]) (fun _ _ => by kernel_rfl) rfl (by decide) (show Calls Try.prog 32 #[a31.tmps.getD 40 undef, .int .i64 2] w31 _ from by rw [q40]; exact cNumS (s := t4) rd hB hm (n := 2) (by decide) (by decide)) fun a32 w32 rd g32 s32 => ?_
      have k2 := k2.grown g32 (by simp; omega)
      have k3 := k3.grown g32 (by simp; omega)
      have ovl := own_grown ovl g32 hg
      have z32 := only_trans z31 g32
      have bx5 := nx_bd hB t4 2
      obtain ⟨x5, ex5⟩ : ∃ x, x = (nx bs t4 2).1 := ⟨_, rfl⟩
      obtain ⟨t5, et5⟩ : ∃ x, x = (nx bs t4 2).2 := ⟨_, rfl⟩
      rw [← et5] at rd
      rw [← ex5] at s32 bx5
      have bx5 : 0 ≤ x5 ∧ x5 < 65536 := bx5
      have ix5 := i64_id bx5
      refine chainK 1 (cc rfl (p_cvE (n' := x5) ix5 g0 (od rfl id) cv_23_3) cn) (by kernel_rfl) s32 fun a33 w33 b33 s33 => ?_
      have z33 := only_trans z32 (only_of_below b33 (some g))
      have rd := rd.below b33
      have k2 := k2.below b33 k2.lt
      have k3 := k3.below b33 k3.lt
      have ovl := own_below ovl b33
      show wpList _ _ _ (_ :: _) _ _
      have q39 : a33.tmps.getD 39 undef = .pointer (some ⟨g, 0, none⟩) := s33.get 39 rfl
      have q42 : a33.tmps.getD 42 undef = .int .i64 x5 := s33.get 42 rfl
      refine row_on [.tmp 39, .tmp 42] s33 (fun _ => rfl) (by simp [Region.wanted]) (fun _ _ => by kernel_rfl) rfl (by decide) (show Calls Try.prog 35 #[a33.tmps.getD 39 undef, a33.tmps.getD 42 undef] w33 _ from by rw [q39, q42]; exact cTakeS (s := t5) rd hm) fun vd a34 w34 ovd rd g34 s34 => ?_
      have k2 := k2.grown g34 (by simp; omega)
      have k3 := k3.grown g34 (by simp; omega)
      have ovl := own_grown ovl g34 hg
      have ovd := own_mono ovd z33.size
      have z34 := only_trans z33 g34
      obtain ⟨dt, edt⟩ : ∃ x, x = (tkR x5 bs t5).1 := ⟨_, rfl⟩
      obtain ⟨t6, et6⟩ : ∃ x, x = (tkR x5 bs t5).2 := ⟨_, rfl⟩
      rw [← et6] at rd
      rw [← edt] at ovd
      refine chainK 1 (cc rfl (p_faV0 fa_67_6 g0 (od rfl id)) cn) (by kernel_rfl) s34 fun a35 w35 b35 s35 => ?_
      have z35 := only_trans z34 (only_of_below b35 (some g))
      have rd := rd.below b35
      have k2 := k2.below b35 k2.lt
      have k3 := k3.below b35 k3.lt
      have ovl := own_below ovl b35
      have ovd := own_below ovd b35
      show wpList _ _ _ (_ :: _) _ _
      have hnovl := own_ne ovl k3 (by decide)
      have hnovd := own_ne ovd k3 (by decide)
      refine cells_on (vs := [vd]) id s35 rfl rfl rfl (od rfl id) (od rfl id) (slice_one ovd).2 k3 (by simp) sz_22 (fun u hu => by rw [List.mem_singleton.1 hu]; exact (slice_one ovd).1) (vv 0 rfl (vv 2 rfl (vv 3 rfl vn))) fun a36 w36 k3 g36 s36 => ?_
      have k3 : Blk w36 g3 67 #[.int .i64 x1, .int .i64 x2, .int .i64 l1.d, vl, .int .i64 0, .slice none 0 0, .int .i64 x4, .int .i64 0, vd, .slice none 0 0, .int .i64 0, .int .i64 0] := k3
      have k2 := k2.grown g36 (by simp; omega)
      have ovl := own_grown3 ovl g36 hnovl
      have ovd := own_grown3 ovd g36 hnovd
      have rd := rd_grownO rd g36 (fun x e => by cases e; omega)
      have z36 := grown_far z35 g36 (fun x e => by cases e; exact hg3)
      refine wpList_done ?_
      refine wp_seq ?_
      refine wp_region_lit ?_
      show wpList _ _ _ (_ :: _) _ _
      have s36 := (s36.keep (sc 2 rfl (sc 3 rfl sn)))
      refine ldrowV_on s36 rfl rfl (by decide) rfl (od rfl id) k3 u_67 ur_67 sz_67 fun a37 s37 => ?_
      have z37 := z36
      show wpList _ _ _ (_ :: _) _ _
      have hnovl := own_ne ovl k2 (by decide)
      have hnovd := own_ne ovd k2 (by decide)
      refine cells_on (vs := (#[.int .i64 x1, .int .i64 x2, .int .i64 l1.d, vl, .int .i64 0, .slice none 0 0, .int .i64 x4, .int .i64 0, vd, .slice none 0 0, .int .i64 0, .int .i64 0] : Array Value).toList) id s37 rfl rfl rfl (od rfl id) (od rfl id) rfl k2 (by simp) sz_67 (obL_ones (slice_one ovl).1 rfl (slice_one ovd).1 rfl) (vv 2 rfl vn) fun a38 w38 k2 g38 s38 => ?_
      have k2 : Blk w38 g2 67 #[.int .i64 x1, .int .i64 x2, .int .i64 l1.d, vl, .int .i64 0, .slice none 0 0, .int .i64 x4, .int .i64 0, vd, .slice none 0 0, .int .i64 0, .int .i64 0] := k2
      have k3 := k3.grown g38 (by simp; omega)
      have ovl := own_grown3 ovl g38 hnovl
      have ovd := own_grown3 ovd g38 hnovd
      have rd := rd_grownO rd g38 (fun x e => by cases e; omega)
      have z38 := grown_far z37 g38 (fun x e => by cases e; exact hg2)
      refine wpList_done ?_
      have hX : obR bs (k, b) = (obOf (x1, x2, l1, (bdR x1 bs t3).1), (bdR x1 bs t3).2) := by rw [ob_read, ← ex1, ← et1, ← ex2, ← et2, ← el1, ← et3]
      rw [bd_2 p2, ← ex4, ← et4, ← ex5, ← et5, ← edt, ← et6] at hX
      rw [hX]
      refine wp_ret ?_
      exact bodyPost_ret (results_cell_row rfl _ _ g2 67 #[.int .i64 x1, .int .i64 x2, .int .i64 l1.d, vl, .int .i64 0, .slice none 0 0, .int .i64 x4, .int .i64 0, vd, .slice none 0 0, .int .i64 0, .int .i64 0] (0, 0) _ (s38.get 2 rfl) k2 u_67 (by kernel_rfl) (by kernel_rfl)) s38.defers ⟨vl, .slice none 0 0, vd, .slice none 0 0, rfl, ⟨ovl, (World.ownsRow_nil _ _ _ _), ovd, (World.ownsRow_nil _ _ _ _)⟩, rd, z38⟩
    · -- false
      have p2 : ¬ x1 = 2 := by simpa using h33
      refine wp_seq ?_
      refine flowC mixed (s26.keep (sc 0 rfl (sc 2 rfl (sc 3 rfl (sc 17 rfl sn))))) (by kernel_rfl) (by kernel_rfl) (cc rfl (p_bin g0 (od rfl id) (oc _) b_eql_3)
          (cc rfl (p_assign g0 (od rfl id)) cn)) fun a39 w39 b39 s39 => ?_
      have z39 := only_trans z26 (only_of_below b39 (some g))
      have rd := rd.below b39
      have k2 := k2.below b39 k2.lt
      have k3 := k3.below b39 k3.lt
      have ovl := own_below ovl b39
      refine s39.cond 45 rfl (fun h45 => ?_) (fun h45 => ?_)
      · -- true
        have p4 : x1 = 4 := by simpa using h45
        refine wp_seq ?_
        refine wp_region_lit ?_
        refine chainK 1 (cc rfl (p_move g0 (od rfl id)) cn) (by kernel_rfl) (s39.keep (sc 0 rfl (sc 2 rfl (sc 3 rfl sn)))) fun a40 w40 b40 s40 => ?_
        have z40 := only_trans z39 (only_of_below b40 (some g))
        have rd := rd.below b40
        have k2 := k2.below b40 k2.lt
        have k3 := k3.below b40 k3.lt
        have ovl := own_below ovl b40
        show wpList _ _ _ (_ :: _) _ _
        have q47 : a40.tmps.getD 47 undef = .pointer (some ⟨g, 0, none⟩) := s40.get 47 rfl
        refine rd_on [.tmp 47, .const (.int .i64 1)] s40 (fun _ => rfl) (by simp [Region.wanted]) (fun _ _ => by kernel_rfl) rfl (by decide) (show Calls Try.prog 32 #[a40.tmps.getD 47 undef, .int .i64 1] w40 _ from by rw [q47]; exact cNumS (s := t3) rd hB hm (n := 1) (by decide) (by decide)) fun a41 w41 rd g41 s41 => ?_
        have k2 := k2.grown g41 (by simp; omega)
        have k3 := k3.grown g41 (by simp; omega)
        have ovl := own_grown ovl g41 hg
        have z41 := only_trans z40 g41
        have bx4 := nx_bd hB t3 1
        obtain ⟨x4, ex4⟩ : ∃ x, x = (nx bs t3 1).1 := ⟨_, rfl⟩
        obtain ⟨t4, et4⟩ : ∃ x, x = (nx bs t3 1).2 := ⟨_, rfl⟩
        rw [← et4] at rd
        rw [← ex4] at s41 bx4
        have bx4 : 0 ≤ x4 ∧ x4 < 256 := bx4
        have ix4 := i64_id bx4
        refine chainT (t := []) (cc rfl (p_move g0 (oc _)) cn) (by kernel_rfl) s41 fun a42 w42 b42 s42 => wpList_done ?_
        have z42 := only_trans z41 (only_of_below b42 (some g))
        have rd := rd.below b42
        have k2 := k2.below b42 k2.lt
        have k3 := k3.below b42 k3.lt
        have ovl := own_below ovl b42
        obtain ⟨n, hn⟩ : ∃ n : Nat, x4 = (n : Int) := ⟨x4.toNat, by omega⟩
        have s42 := s42.more 48 (y := .int .u64 (n : Int)) (int_as (s42.get 48 rfl) hn)
        refine wp_block ?_
        refine wp_countI n 49 (MPI w g g2 g3 n x1 x2 l1 vl bs t4) (fun _ _ _ ⟨_, _, _, _, hs⟩ => by rw [show _ = _ from hs.get 49 rfl]; rfl) ⟨.slice none 0 0, [], t4, ⟨rd, k2, k3, ovl, World.ownsRow_nil _ _ _ _, rfl, rfl, z42⟩, s42.to _ ⟨rfl, rfl, rfl, rfl, rfl, True.intro⟩⟩ fun i a43 w43 hi43 hI => ?_
        obtain ⟨v, ms, s, ⟨rd, k2, k3, ovl, ow, heq, hlen, z43⟩, s43⟩ := hI
        refine wp_seq ?_
        refine flowC mixed (s43.keep (sc 0 rfl (sc 2 rfl (sc 3 rfl (sc 48 rfl (sc 49 rfl sn)))))) (by kernel_rfl) (by kernel_rfl) (cc rfl (p_bin g0 (od rfl id) (od rfl id) b_lss_23) cn) fun a44 w44 b44 s44 => ?_
        have z44 := only_trans z43 (only_of_below b44 (some g))
        have rd := rd.below b44
        have k2 := k2.below b44 k2.lt
        have k3 := k3.below b44 k3.lt
        have ovl := own_below ovl b44
        have ow := own_below ow b44
        refine wp_seq ?_
        refine s44.cond 50 rfl (fun h50 => ?_) (fun h50 => ?_)
        · -- true
          have hin : i < n := by simpa using h50
          refine wp_skip ?_
          refine wp_seq ?_
          refine wp_block ?_
          refine wp_seq ?_
          refine wp_seq ?_
          refine wp_region_lit ?_
          refine chainK 1 (cc rfl (p_move g0 (od rfl id)) cn) (by kernel_rfl) (s44.keep (sc 0 rfl (sc 2 rfl (sc 3 rfl (sc 48 rfl (sc 49 rfl sn)))))) fun a45 w45 b45 s45 => ?_
          have z45 := only_trans z44 (only_of_below b45 (some g))
          have rd := rd.below b45
          have k2 := k2.below b45 k2.lt
          have k3 := k3.below b45 k3.lt
          have ovl := own_below ovl b45
          have ow := own_below ow b45
          show wpList _ _ _ (_ :: _) _ _
          have q51 : a45.tmps.getD 51 undef = .pointer (some ⟨g, 0, none⟩) := s45.get 51 rfl
          refine rd_on [.tmp 51] s45 (fun _ => rfl) (by simp [Region.wanted]) (fun _ _ => by kernel_rfl) rfl (by decide) (show Calls Try.prog 33 #[a45.tmps.getD 51 undef] w45 _ from by rw [q51]; exact cBad (k := s.1) (b := s.2) rd) fun a46 w46 rd g46 s46 => ?_
          have k2 := k2.grown g46 (by simp; omega)
          have k3 := k3.grown g46 (by simp; omega)
          have ovl := own_grown ovl g46 hg
          have ow := own_grown ow g46 hg
          have z46 := only_trans z45 g46
          refine wpList_done ?_
          refine s46.cond 52 rfl (fun h52 => ?_) (fun h52 => ?_)
          · -- true
            have hbad : s.2 = true := h52
            have heq : manyR mapR5 n bs t4 = (ms, s) := by rw [heq, many_bad hbad, List.append_nil]
            refine wp_exit ?_
            refine wp_seq ?_
            refine wp_region_lit ?_
            show wpList _ _ _ (_ :: _) _ _
            have s46 := (s46.keep (sc 2 rfl (sc 3 rfl sn)))
            refine ldrowV_on s46 rfl rfl (by decide) rfl (od rfl id) k3 u_67 ur_67 sz_67 fun a47 s47 => ?_
            have z47 := z46
            show wpList _ _ _ (_ :: _) _ _
            have hnovl := own_ne ovl k2 (by decide)
            have hnow := own_ne ow k2 (by decide)
            refine cells_on (vs := (#[.int .i64 x1, .int .i64 x2, .int .i64 l1.d, vl, .int .i64 0, .slice none 0 0, .int .i64 0, .int .i64 0, .slice none 0 0, v, .int .i64 0, .int .i64 0] : Array Value).toList) id s47 rfl rfl rfl (od rfl id) (od rfl id) rfl k2 (by simp) sz_67 (obL_ones (slice_one ovl).1 rfl rfl (slice_one ow).1) (vv 2 rfl vn) fun a48 w48 k2 g48 s48 => ?_
            have k2 : Blk w48 g2 67 #[.int .i64 x1, .int .i64 x2, .int .i64 l1.d, vl, .int .i64 0, .slice none 0 0, .int .i64 0, .int .i64 0, .slice none 0 0, v, .int .i64 0, .int .i64 0] := k2
            have k3 := k3.grown g48 (by simp; omega)
            have ovl := own_grown3 ovl g48 hnovl
            have ow := own_grown3 ow g48 hnow
            have rd := rd_grownO rd g48 (fun x e => by cases e; omega)
            have z48 := grown_far z47 g48 (fun x e => by cases e; exact hg2)
            refine wpList_done ?_
            have hX : obR bs (k, b) = (obOf (x1, x2, l1, (bdR x1 bs t3).1), (bdR x1 bs t3).2) := by rw [ob_read, ← ex1, ← et1, ← ex2, ← et2, ← el1, ← et3]
            rw [bd_4 p4, ← ex4, ← et4, hn, Int.toNat_natCast, heq] at hX
            rw [hX]
            refine wp_ret ?_
            exact bodyPost_ret (results_cell_row rfl _ _ g2 67 #[.int .i64 x1, .int .i64 x2, .int .i64 l1.d, vl, .int .i64 0, .slice none 0 0, .int .i64 0, .int .i64 0, .slice none 0 0, v, .int .i64 0, .int .i64 0] (0, 0) _ (s48.get 2 rfl) k2 u_67 (by kernel_rfl) (by kernel_rfl)) s48.defers ⟨vl, .slice none 0 0, .slice none 0 0, v, rfl, ⟨ovl, (World.ownsRow_nil _ _ _ _), (World.ownsRow_nil _ _ _ _), ow⟩, rd, z48⟩
          · -- false
            have hbad : s.2 = false := h52
            have hgo := heq
            rw [show n - i = (n - (i + 1)) + 1 by omega, many_go hbad] at hgo
            refine wp_skip ?_
            refine wp_seq ?_
            refine wp_region_lit ?_
            show wpList _ _ _ (_ :: _) _ _
            have s46 := (s46.keep (sc 0 rfl (sc 2 rfl (sc 3 rfl (sc 48 rfl (sc 49 rfl sn))))))
            refine alloc_on (u := 153) (z := #[.int .u64 0, .int .u64 0, .int .u64 0, .int .u64 0, .int .u64 0]) id s46 rfl (by decide) rfl (fun ev w => al_153 ev w) fun g4 a49 w49 k4 hg40 b49 s49 => ?_
            have hg2g4 : g2 < g4 := Nat.lt_of_lt_of_le k2.lt hg40
            have hg3g4 : g3 < g4 := Nat.lt_of_lt_of_le k3.lt hg40
            have hg4 := Nat.le_trans z46.size hg40
            have z49 := only_trans z46 (only_of_below b49 (some g))
            have rd := rd.below b49
            have k2 := k2.below b49 k2.lt
            have k3 := k3.below b49 k3.lt
            have ovl := own_below ovl b49
            have ow := own_below ow b49
            refine wpList_done ?_
            refine wp_seq ?_
            refine wp_seq ?_
            refine flowC mixed (s49.keep (sc 0 rfl (sc 2 rfl (sc 3 rfl (sc 4 rfl (sc 48 rfl (sc 49 rfl sn))))))) (by kernel_rfl) (by kernel_rfl) (cc rfl (p_move g0 (oc _)) cn) fun a50 w50 b50 s50 => ?_
            have z50 := only_trans z49 (only_of_below b50 (some g))
            have rd := rd.below b50
            have k2 := k2.below b50 k2.lt
            have k3 := k3.below b50 k3.lt
            have k4 := k4.below b50 k4.lt
            have ovl := own_below ovl b50
            have ow := own_below ow b50
            refine wp_block ?_
            refine wp_countI 5 53 (MJI w g g2 g3 g4 n x1 x2 l1 vl v ms bs s i) (fun _ _ _ ⟨_, hs⟩ => by rw [show _ = _ from hs.get 53 rfl]; rfl) ⟨⟨rd, k2, k3, k4, ovl, ow, z50⟩, s50.to _ ⟨rfl, rfl, rfl, rfl, rfl, rfl, rfl, True.intro⟩⟩ fun j a51 w51 hj hJ => ?_
            obtain ⟨⟨rd, k2, k3, k4, ovl, ow, z51⟩, s51⟩ := hJ
            refine wp_seq ?_
            refine flowC mixed (s51.keep (sc 0 rfl (sc 2 rfl (sc 3 rfl (sc 4 rfl (sc 48 rfl (sc 49 rfl (sc 53 rfl sn)))))))) (by kernel_rfl) (by kernel_rfl) (cc rfl (p_bin g0 (od rfl id) (oc _) b_lss_3) cn) fun a52 w52 b52 s52 => ?_
            have z52 := only_trans z51 (only_of_below b52 (some g))
            have rd := rd.below b52
            have k2 := k2.below b52 k2.lt
            have k3 := k3.below b52 k3.lt
            have k4 := k4.below b52 k4.lt
            have ovl := own_below ovl b52
            have ow := own_below ow b52
            refine wp_seq ?_
            refine s52.cond 54 rfl (fun h54 => ?_) (fun h54 => ?_)
            · -- true
              have hj5 : j < 5 := by have := of_decide_eq_true h54; (try dsimp only at this); omega
              refine wp_skip ?_
              refine wp_seq ?_
              refine wp_block ?_
              refine wp_seq ?_
              refine flowC mixed (s52.keep (sc 0 rfl (sc 2 rfl (sc 3 rfl (sc 4 rfl (sc 48 rfl (sc 49 rfl (sc 53 rfl (sc 54 rfl sn))))))))) (by kernel_rfl) (by kernel_rfl) (cc rfl (p_move g0 (od rfl id))
                  (cc rfl (p_assign g0 (od rfl id)) cn)) fun a53 w53 b53 s53 => ?_
              have z53 := only_trans z52 (only_of_below b53 (some g))
              have rd := rd.below b53
              have k2 := k2.below b53 k2.lt
              have k3 := k3.below b53 k3.lt
              have k4 := k4.below b53 k4.lt
              have ovl := own_below ovl b53
              have ow := own_below ow b53
              refine wp_region_lit ?_
              refine chainK 2 (cc rfl (p_move g0 (od rfl id))
                  (cc rfl (p_move g0 (od rfl id)) cn)) (by kernel_rfl) (s53.keep (sc 0 rfl (sc 2 rfl (sc 3 rfl (sc 4 rfl (sc 5 rfl (sc 48 rfl (sc 49 rfl (sc 53 rfl sn))))))))) fun a54 w54 b54 s54 => ?_
              have z54 := only_trans z53 (only_of_below b54 (some g))
              have rd := rd.below b54
              have k2 := k2.below b54 k2.lt
              have k3 := k3.below b54 k3.lt
              have k4 := k4.below b54 k4.lt
              have ovl := own_below ovl b54
              have ow := own_below ow b54
              show wpList _ _ _ (_ :: _) _ _
              have q57 : a54.tmps.getD 57 undef = .pointer (some ⟨g, 0, none⟩) := s54.get 57 rfl
              refine rd_on [.tmp 57, .const (.int .i64 2)] s54 (fun _ => rfl) (by simp [Region.wanted]) (fun _ _ => by kernel_rfl) rfl (by decide) (show Calls Try.prog 32 #[a54.tmps.getD 57 undef, .int .i64 2] w54 _ from by rw [q57]; exact cNumS (s := (numsTo bs s j).2) rd hB hm (n := 2) (by decide) (by decide)) fun a55 w55 rd g55 s55 => ?_
              have k2 := k2.grown g55 (by simp; omega)
              have k3 := k3.grown g55 (by simp; omega)
              have k4 := k4.grown g55 (by simp; omega)
              have ovl := own_grown ovl g55 hg
              have ow := own_grown ow g55 hg
              have z55 := only_trans z54 g55
              refine chainK 1 (cc rfl (p_fi153 hj5 g0 (od rfl id) (od rfl id)) cn) (by kernel_rfl) s55 fun a56 w56 b56 s56 => ?_
              have z56 := only_trans z55 (only_of_below b56 (some g))
              have rd := rd.below b56
              have k2 := k2.below b56 k2.lt
              have k3 := k3.below b56 k3.lt
              have k4 := k4.below b56 k4.lt
              have ovl := own_below ovl b56
              have ow := own_below ow b56
              show wpList _ _ _ (_ :: _) _ _
              have hnovl := own_ne ovl k4 (by decide)
              have hnow := own_ne ow k4 (by decide)
              have hlj := numsTo_len bs s j
              refine cells_on (vs := [.int .u64 (nx bs (numsTo bs s j).2 2).1]) id s56 rfl rfl rfl (od rfl id) (od rfl id) rfl k4 (by rw [numsA_size (by omega)]; simp; omega) sz_23 (by simp [Value.oneCell']) (vv 0 rfl (vv 2 rfl (vv 3 rfl (vv 4 rfl (vv 48 rfl (vv 49 rfl (vv 53 rfl vn))))))) fun a57 w57 k4 g57 s57 => ?_
              have k4 : Blk w57 g4 153 (numsA (numsTo bs s (j + 1)).1) := by have h := k4; rw [Nat.zero_add, show over (numsA (numsTo bs s j).1) j _ = over (numsA (numsTo bs s j).1) (numsTo bs s j).1.length _ by rw [hlj], numsA_set (by omega)] at h; exact h
              have k2 := k2.grown g57 (by simp; omega)
              have k3 := k3.grown g57 (by simp; omega)
              have ovl := own_grown3 ovl g57 hnovl
              have ow := own_grown3 ow g57 hnow
              have rd := rd_grownO rd g57 (fun x e => by cases e; omega)
              have z57 := grown_far z56 g57 (fun x e => by cases e; exact hg4)
              refine wpList_done ?_
              refine flowT (s57.keep (sc 0 rfl (sc 2 rfl (sc 3 rfl (sc 4 rfl (sc 48 rfl (sc 49 rfl (sc 53 rfl sn)))))))) (by kernel_rfl) (cc rfl (p_bin g0 (od rfl id) (oc _) (inc_3 (by omega)))
                  (cc rfl (p_move g0 (od rfl id)) cn)) fun a58 w58 b58 s58 => ?_
              have z58 := only_trans z57 (only_of_below b58 (some g))
              have rd := rd.below b58
              have k2 := k2.below b58 k2.lt
              have k3 := k3.below b58 k3.lt
              have k4 := k4.below b58 k4.lt
              have ovl := own_below ovl b58
              have ow := own_below ow b58
              exact ⟨hj5, ⟨rd, k2, k3, k4, ovl, ow, z58⟩, s58.to _ ⟨rfl, rfl, rfl, rfl, rfl, rfl, rfl, True.intro⟩⟩
            · -- false
              obtain rfl : j = 5 := by have := of_decide_eq_false h54; (try dsimp only at this); omega
              have by0 := nx2 hB s
              obtain ⟨y0, ey0⟩ : ∃ x, x = (nx bs s 2).1 := ⟨_, rfl⟩
              rw [← ey0] at by0
              have iy0 := i64_id by0
              have by1 := nx2 hB (nx bs s 2).2
              obtain ⟨y1, ey1⟩ : ∃ x, x = (nx bs (nx bs s 2).2 2).1 := ⟨_, rfl⟩
              rw [← ey1] at by1
              have iy1 := i64_id by1
              have by2 := nx2 hB (nx bs (nx bs s 2).2 2).2
              obtain ⟨y2, ey2⟩ : ∃ x, x = (nx bs (nx bs (nx bs s 2).2 2).2 2).1 := ⟨_, rfl⟩
              rw [← ey2] at by2
              have iy2 := i64_id by2
              have by3 := nx2 hB (nx bs (nx bs (nx bs s 2).2 2).2 2).2
              obtain ⟨y3, ey3⟩ : ∃ x, x = (nx bs (nx bs (nx bs (nx bs s 2).2 2).2 2).2 2).1 := ⟨_, rfl⟩
              rw [← ey3] at by3
              have iy3 := i64_id by3
              have by4 := nx2 hB (nx bs (nx bs (nx bs (nx bs s 2).2 2).2 2).2 2).2
              obtain ⟨y4, ey4⟩ : ∃ x, x = (nx bs (nx bs (nx bs (nx bs (nx bs s 2).2 2).2 2).2 2).2 2).1 := ⟨_, rfl⟩
              rw [← ey4] at by4
              have iy4 := i64_id by4
              have ek4 : numsA (numsTo bs s 5).1 = #[.int .u64 y0, .int .u64 y1, .int .u64 y2, .int .u64 y3, .int .u64 y4] := by rw [ey0, ey1, ey2, ey3, ey4]; rfl
              rw [ek4] at k4
              obtain ⟨s5, es5⟩ : ∃ x, x = (numsTo bs s 5).2 := ⟨_, rfl⟩
              rw [← es5] at rd
              refine wp_exit ?_
              refine wp_seq ?_
              refine wp_seq ?_
              refine wp_region_lit ?_
              refine chainK 1 (cc rfl (p_arrV fa_153.2.2.2.2 g0 (od rfl id)) cn) (by kernel_rfl) (s52.keep (sc 0 rfl (sc 2 rfl (sc 3 rfl (sc 4 rfl (sc 48 rfl (sc 49 rfl sn))))))) fun a59 w59 b59 s59 => ?_
              have z59 := only_trans z52 (only_of_below b59 (some g))
              have rd := rd.below b59
              have k2 := k2.below b59 k2.lt
              have k3 := k3.below b59 k3.lt
              have k4 := k4.below b59 k4.lt
              have ovl := own_below ovl b59
              have ow := own_below ow b59
              show wpList _ _ _ (_ :: _) _ _
              refine ldcellV_on (k := 4) (v := .int .u64 y4) s59 rfl (by decide) rfl (fun ev w b off v h1 h2 => ld_23 ev w b off v h1 h2) (od rfl id) k4 rfl fun a60 s60 => ?_
              have z60 := z59
              refine chainT (t := []) (cc rfl (p_bin g0 (od rfl id) (oc _) b_gtr_23) cn) (by kernel_rfl) s60 fun a61 w61 b61 s61 => wpList_done ?_
              have z61 := only_trans z60 (only_of_below b61 (some g))
              have rd := rd.below b61
              have k2 := k2.below b61 k2.lt
              have k3 := k3.below b61 k3.lt
              have k4 := k4.below b61 k4.lt
              have ovl := own_below ovl b61
              have ow := own_below ow b61
              refine s61.cond 63 rfl (fun h63 => ?_) (fun h63 => ?_)
              · -- true
                have hy4 : ¬ y4 ≤ 1 := by have := of_decide_eq_true h63; (try dsimp only at this); omega
                have hr5 := map_read (bs := bs) (s := s)
                rw [← ey0, ← ey1, ← ey2, ← ey3, ← ey4, ← es5, if_neg hy4] at hr5
                have hm5 : [(mapR5 bs s).1].flatMap mapE = mapE ⟨y0, y1, y2, y3, y4 == 1⟩ := by rw [hr5]; simp [mapOf]
                refine wp_region_lit ?_
                refine chainK 1 (cc rfl (p_move g0 (od rfl id)) cn) (by kernel_rfl) (s61.keep (sc 0 rfl (sc 2 rfl (sc 3 rfl (sc 4 rfl (sc 48 rfl (sc 49 rfl sn))))))) fun a62 w62 b62 s62 => ?_
                have z62 := only_trans z61 (only_of_below b62 (some g))
                have rd := rd.below b62
                have k2 := k2.below b62 k2.lt
                have k3 := k3.below b62 k3.lt
                have k4 := k4.below b62 k4.lt
                have ovl := own_below ovl b62
                have ow := own_below ow b62
                show wpList _ _ _ (_ :: _) _ _
                have q64 : a62.tmps.getD 64 undef = .pointer (some ⟨g, 0, none⟩) := s62.get 64 rfl
                refine rd_on [.tmp 64] s62 (fun _ => rfl) (by simp [Region.wanted]) (fun _ _ => by kernel_rfl) rfl (by decide) (show Calls Try.prog 39 #[a62.tmps.getD 64 undef] w62 _ from by rw [q64]; exact cFail rd) fun a63 w63 rd g63 s63 => ?_
                have k2 := k2.grown g63 (by simp; omega)
                have k3 := k3.grown g63 (by simp; omega)
                have k4 := k4.grown g63 (by simp; omega)
                have ovl := own_grown ovl g63 hg
                have ow := own_grown ow g63 hg
                have z63 := only_trans z62 g63
                refine wpList_done ?_
                rw [show s5.1 = (mapR5 bs s).2.1 by rw [hr5], show true = (mapR5 bs s).2.2 by rw [hr5]] at rd
                refine wp_region_lit ?_
                refine chainK 1 (cc rfl (p_faV0 fa_67_7 g0 (od rfl id)) cn) (by kernel_rfl) (s63.keep (sc 0 rfl (sc 2 rfl (sc 3 rfl (sc 4 rfl (sc 48 rfl (sc 49 rfl sn))))))) fun a64 w64 b64 s64 => ?_
                have z64 := only_trans z63 (only_of_below b64 (some g))
                have rd := rd.below b64
                have k2 := k2.below b64 k2.lt
                have k3 := k3.below b64 k3.lt
                have k4 := k4.below b64 k4.lt
                have ovl := own_below ovl b64
                have ow := own_below ow b64
                show wpList _ _ _ (_ :: _) _ _
                refine ldcellV_on (k := 9) (v := v) s64 rfl (by decide) rfl (fun ev w b off v h1 h2 => ld_65 ev w b off v h1 h2) (od rfl id) k3 rfl fun a65 s65 => ?_
                have z65 := z64
                refine chainK 1 (cc rfl (p_arrV fa_153.1 g0 (od rfl id)) cn) (by kernel_rfl) s65 fun a66 w66 b66 s66 => ?_
                have z66 := only_trans z65 (only_of_below b66 (some g))
                have rd := rd.below b66
                have k2 := k2.below b66 k2.lt
                have k3 := k3.below b66 k3.lt
                have k4 := k4.below b66 k4.lt
                have ovl := own_below ovl b66
                have ow := own_below ow b66
                show wpList _ _ _ (_ :: _) _ _
                refine ldcellV_on (k := 0) (v := .int .u64 y0) s66 rfl (by decide) rfl (fun ev w b off v h1 h2 => ld_23 ev w b off v h1 h2) (od rfl id) k4 rfl fun a67 s67 => ?_
                have z67 := z66
                refine chainK 2 (cc rfl (p_cvE (n' := y0) iy0 g0 (od rfl id) cv_23_3)
                    (cc rfl (p_arrV fa_153.2.1 g0 (od rfl id)) cn)) (by kernel_rfl) s67 fun a68 w68 b68 s68 => ?_
                have z68 := only_trans z67 (only_of_below b68 (some g))
                have rd := rd.below b68
                have k2 := k2.below b68 k2.lt
                have k3 := k3.below b68 k3.lt
                have k4 := k4.below b68 k4.lt
                have ovl := own_below ovl b68
                have ow := own_below ow b68
                show wpList _ _ _ (_ :: _) _ _
                refine ldcellV_on (k := 1) (v := .int .u64 y1) s68 rfl (by decide) rfl (fun ev w b off v h1 h2 => ld_23 ev w b off v h1 h2) (od rfl id) k4 rfl fun a69 s69 => ?_
                have z69 := z68
                refine chainK 1 (cc rfl (p_arrV fa_153.2.2.1 g0 (od rfl id)) cn) (by kernel_rfl) s69 fun a70 w70 b70 s70 => ?_
                have z70 := only_trans z69 (only_of_below b70 (some g))
                have rd := rd.below b70
                have k2 := k2.below b70 k2.lt
                have k3 := k3.below b70 k3.lt
                have k4 := k4.below b70 k4.lt
                have ovl := own_below ovl b70
                have ow := own_below ow b70
                show wpList _ _ _ (_ :: _) _ _
                refine ldcellV_on (k := 2) (v := .int .u64 y2) s70 rfl (by decide) rfl (fun ev w b off v h1 h2 => ld_23 ev w b off v h1 h2) (od rfl id) k4 rfl fun a71 s71 => ?_
                have z71 := z70
                refine chainK 2 (cc rfl (p_cvE (n' := y2) iy2 g0 (od rfl id) cv_23_3)
                    (cc rfl (p_arrV fa_153.2.2.2.1 g0 (od rfl id)) cn)) (by kernel_rfl) s71 fun a72 w72 b72 s72 => ?_
                have z72 := only_trans z71 (only_of_below b72 (some g))
                have rd := rd.below b72
                have k2 := k2.below b72 k2.lt
                have k3 := k3.below b72 k3.lt
                have k4 := k4.below b72 k4.lt
                have ovl := own_below ovl b72
                have ow := own_below ow b72
                show wpList _ _ _ (_ :: _) _ _
                refine ldcellV_on (k := 3) (v := .int .u64 y3) s72 rfl (by decide) rfl (fun ev w b off v h1 h2 => ld_23 ev w b off v h1 h2) (od rfl id) k4 rfl fun a73 s73 => ?_
                have z73 := z72
                refine chainK 2 (cc rfl (p_cvE (n' := y3) iy3 g0 (od rfl id) cv_23_3)
                    (cc rfl (p_arrV fa_153.2.2.2.2 g0 (od rfl id)) cn)) (by kernel_rfl) s73 fun a74 w74 b74 s74 => ?_
                have z74 := only_trans z73 (only_of_below b74 (some g))
                have rd := rd.below b74
                have k2 := k2.below b74 k2.lt
                have k3 := k3.below b74 k3.lt
                have k4 := k4.below b74 k4.lt
                have ovl := own_below ovl b74
                have ow := own_below ow b74
                show wpList _ _ _ (_ :: _) _ _
                refine ldcellV_on (k := 4) (v := .int .u64 y4) s74 rfl (by decide) rfl (fun ev w b off v h1 h2 => ld_23 ev w b off v h1 h2) (od rfl id) k4 rfl fun a75 s75 => ?_
                have z75 := z74
                refine chainK 3 (cc rfl (p_bin g0 (od rfl id) (oc _) b_eql_23)
                    (cc rfl (p_bd145 g0 (od rfl id) (od rfl id) (od rfl id) (od rfl id) (od rfl id))
                    (cc rfl (p_lit mapF bs_65 g0 (od rfl id)) cn))) (by kernel_rfl) s75 fun a76 w76 b76 s76 => ?_
                have z76 := only_trans z75 (only_of_below b76 (some g))
                have rd := rd.below b76
                have k2 := k2.below b76 k2.lt
                have k3 := k3.below b76 k3.lt
                have k4 := k4.below b76 k4.lt
                have ovl := own_below ovl b76
                have ow := own_below ow b76
                show wpList _ _ _ (_ :: _) _ _
                refine app_on (e2 := [(0, true, .val (.pointer (some ⟨g, 0, none⟩))), (2, true, .val (.pointer (some ⟨g2, 0, none⟩))), (3, true, .val (.pointer (some ⟨g3, 0, none⟩))), (48, true, .int .u64 (n : Int)), (49, true, .int .u64 (i : Int))]) 67 83 id s76 rfl rfl (by decide) rfl Try.underlying65 hm0 hm1 hm2 hm3 rfl (by decide) ow (s76.get 67 rfl) rfl rfl (mapF.one _) (by unfold maxLen; omega) (by omega) z76.size (vv 0 rfl (vv 2 rfl (vv 3 rfl (vv 48 rfl (vv 49 rfl vn))))) fun v2 a77 w77 ow2 g77 s77 => ?_
                have hnk2 := own_ne ow k2 (by decide)
                have k2 := k2.grown g77 hnk2
                have hnk3 := own_ne ow k3 (by decide)
                have k3 := k3.grown g77 hnk3
                have hnk4 := own_ne ow k4 (by decide)
                have k4 := k4.grown g77 hnk4
                obtain hvl := own_ne3 ovl ow (by decide)
                have ovl := ovl.kept g77 hvl
                have rd := rd_grownO rd g77 (fun x hx => Nat.lt_of_lt_of_le hg (own_base ow hx))
                have z77 := grown_far z76 g77 (fun x hx => own_base ow hx)
                refine chainK 1 (cc rfl (p_faV0 fa_67_7 g0 (od rfl id)) cn) (by kernel_rfl) s77 fun a78 w78 b78 s78 => ?_
                have z78 := only_trans z77 (only_of_below b78 (some g))
                have rd := rd.below b78
                have k2 := k2.below b78 k2.lt
                have k3 := k3.below b78 k3.lt
                have k4 := k4.below b78 k4.lt
                have ovl := own_below ovl b78
                have ow2 := own_below ow2 b78
                show wpList _ _ _ (_ :: _) _ _
                have hnovl := own_ne ovl k3 (by decide)
                have hnow2 := own_ne ow2 k3 (by decide)
                refine cells_on (vs := [v2]) id s78 rfl rfl rfl (od rfl id) (od rfl id) (slice_one ow2).2 k3 (by simp) sz_65 (fun u hu => by rw [List.mem_singleton.1 hu]; exact (slice_one ow2).1) (vv 0 rfl (vv 2 rfl (vv 3 rfl (vv 48 rfl (vv 49 rfl vn))))) fun a79 w79 k3 g79 s79 => ?_
                have k3 : Blk w79 g3 67 #[.int .i64 x1, .int .i64 x2, .int .i64 l1.d, vl, .int .i64 0, .slice none 0 0, .int .i64 0, .int .i64 0, .slice none 0 0, v2, .int .i64 0, .int .i64 0] := k3
                have k2 := k2.grown g79 (by simp; omega)
                have k4 := k4.grown g79 (by simp; omega)
                have ovl := own_grown3 ovl g79 hnovl
                have ow2 := own_grown3 ow2 g79 hnow2
                have rd := rd_grownO rd g79 (fun x e => by cases e; omega)
                have z79 := grown_far z78 g79 (fun x e => by cases e; exact hg3)
                refine wpList_done ?_
                refine flowT (s79.keep (sc 0 rfl (sc 2 rfl (sc 3 rfl (sc 48 rfl (sc 49 rfl sn)))))) (by kernel_rfl) (cc rfl (p_binE (n' := ((i + 1 : Nat) : Int)) (by rw [IntKind.wrap_u64]; omega) g0 (od rfl id) (oc _) b_add_23)
                    (cc rfl (p_move g0 (od rfl id)) cn)) fun a80 w80 b80 s80 => ?_
                have z80 := only_trans z79 (only_of_below b80 (some g))
                have rd := rd.below b80
                have k2 := k2.below b80 k2.lt
                have k3 := k3.below b80 k3.lt
                have k4 := k4.below b80 k4.lt
                have ovl := own_below ovl b80
                have ow2 := own_below ow2 b80
                exact ⟨hin, v2, ms ++ [(mapR5 bs s).1], (mapR5 bs s).2, ⟨rd, k2, k3, ovl, by rw [List.length_append, List.flatMap_append, hm5]; exact ow2, by rw [List.append_assoc]; exact hgo, by simp [hlen], z80⟩, s80.to _ ⟨rfl, rfl, rfl, rfl, rfl, True.intro⟩⟩
              · -- false
                have hy4 : y4 ≤ 1 := by have := of_decide_eq_false h63; (try dsimp only at this); omega
                have hr5 := map_read (bs := bs) (s := s)
                rw [← ey0, ← ey1, ← ey2, ← ey3, ← ey4, ← es5, if_pos hy4] at hr5
                have hm5 : [(mapR5 bs s).1].flatMap mapE = mapE ⟨y0, y1, y2, y3, y4 == 1⟩ := by rw [hr5]; simp [mapOf]
                have er5 : s5 = (mapR5 bs s).2 := by rw [hr5]
                rw [er5] at rd
                refine wp_skip ?_
                refine wp_region_lit ?_
                refine chainK 1 (cc rfl (p_faV0 fa_67_7 g0 (od rfl id)) cn) (by kernel_rfl) (s61.keep (sc 0 rfl (sc 2 rfl (sc 3 rfl (sc 4 rfl (sc 48 rfl (sc 49 rfl sn))))))) fun a81 w81 b81 s81 => ?_
                have z81 := only_trans z61 (only_of_below b81 (some g))
                have rd := rd.below b81
                have k2 := k2.below b81 k2.lt
                have k3 := k3.below b81 k3.lt
                have k4 := k4.below b81 k4.lt
                have ovl := own_below ovl b81
                have ow := own_below ow b81
                show wpList _ _ _ (_ :: _) _ _
                refine ldcellV_on (k := 9) (v := v) s81 rfl (by decide) rfl (fun ev w b off v h1 h2 => ld_65 ev w b off v h1 h2) (od rfl id) k3 rfl fun a82 s82 => ?_
                have z82 := z81
                refine chainK 1 (cc rfl (p_arrV fa_153.1 g0 (od rfl id)) cn) (by kernel_rfl) s82 fun a83 w83 b83 s83 => ?_
                have z83 := only_trans z82 (only_of_below b83 (some g))
                have rd := rd.below b83
                have k2 := k2.below b83 k2.lt
                have k3 := k3.below b83 k3.lt
                have k4 := k4.below b83 k4.lt
                have ovl := own_below ovl b83
                have ow := own_below ow b83
                show wpList _ _ _ (_ :: _) _ _
                refine ldcellV_on (k := 0) (v := .int .u64 y0) s83 rfl (by decide) rfl (fun ev w b off v h1 h2 => ld_23 ev w b off v h1 h2) (od rfl id) k4 rfl fun a84 s84 => ?_
                have z84 := z83
                refine chainK 2 (cc rfl (p_cvE (n' := y0) iy0 g0 (od rfl id) cv_23_3)
                    (cc rfl (p_arrV fa_153.2.1 g0 (od rfl id)) cn)) (by kernel_rfl) s84 fun a85 w85 b85 s85 => ?_
                have z85 := only_trans z84 (only_of_below b85 (some g))
                have rd := rd.below b85
                have k2 := k2.below b85 k2.lt
                have k3 := k3.below b85 k3.lt
                have k4 := k4.below b85 k4.lt
                have ovl := own_below ovl b85
                have ow := own_below ow b85
                show wpList _ _ _ (_ :: _) _ _
                refine ldcellV_on (k := 1) (v := .int .u64 y1) s85 rfl (by decide) rfl (fun ev w b off v h1 h2 => ld_23 ev w b off v h1 h2) (od rfl id) k4 rfl fun a86 s86 => ?_
                have z86 := z85
                refine chainK 1 (cc rfl (p_arrV fa_153.2.2.1 g0 (od rfl id)) cn) (by kernel_rfl) s86 fun a87 w87 b87 s87 => ?_
                have z87 := only_trans z86 (only_of_below b87 (some g))
                have rd := rd.below b87
                have k2 := k2.below b87 k2.lt
                have k3 := k3.below b87 k3.lt
                have k4 := k4.below b87 k4.lt
                have ovl := own_below ovl b87
                have ow := own_below ow b87
                show wpList _ _ _ (_ :: _) _ _
                refine ldcellV_on (k := 2) (v := .int .u64 y2) s87 rfl (by decide) rfl (fun ev w b off v h1 h2 => ld_23 ev w b off v h1 h2) (od rfl id) k4 rfl fun a88 s88 => ?_
                have z88 := z87
                refine chainK 2 (cc rfl (p_cvE (n' := y2) iy2 g0 (od rfl id) cv_23_3)
                    (cc rfl (p_arrV fa_153.2.2.2.1 g0 (od rfl id)) cn)) (by kernel_rfl) s88 fun a89 w89 b89 s89 => ?_
                have z89 := only_trans z88 (only_of_below b89 (some g))
                have rd := rd.below b89
                have k2 := k2.below b89 k2.lt
                have k3 := k3.below b89 k3.lt
                have k4 := k4.below b89 k4.lt
                have ovl := own_below ovl b89
                have ow := own_below ow b89
                show wpList _ _ _ (_ :: _) _ _
                refine ldcellV_on (k := 3) (v := .int .u64 y3) s89 rfl (by decide) rfl (fun ev w b off v h1 h2 => ld_23 ev w b off v h1 h2) (od rfl id) k4 rfl fun a90 s90 => ?_
                have z90 := z89
                refine chainK 2 (cc rfl (p_cvE (n' := y3) iy3 g0 (od rfl id) cv_23_3)
                    (cc rfl (p_arrV fa_153.2.2.2.2 g0 (od rfl id)) cn)) (by kernel_rfl) s90 fun a91 w91 b91 s91 => ?_
                have z91 := only_trans z90 (only_of_below b91 (some g))
                have rd := rd.below b91
                have k2 := k2.below b91 k2.lt
                have k3 := k3.below b91 k3.lt
                have k4 := k4.below b91 k4.lt
                have ovl := own_below ovl b91
                have ow := own_below ow b91
                show wpList _ _ _ (_ :: _) _ _
                refine ldcellV_on (k := 4) (v := .int .u64 y4) s91 rfl (by decide) rfl (fun ev w b off v h1 h2 => ld_23 ev w b off v h1 h2) (od rfl id) k4 rfl fun a92 s92 => ?_
                have z92 := z91
                refine chainK 3 (cc rfl (p_bin g0 (od rfl id) (oc _) b_eql_23)
                    (cc rfl (p_bd145 g0 (od rfl id) (od rfl id) (od rfl id) (od rfl id) (od rfl id))
                    (cc rfl (p_lit mapF bs_65 g0 (od rfl id)) cn))) (by kernel_rfl) s92 fun a93 w93 b93 s93 => ?_
                have z93 := only_trans z92 (only_of_below b93 (some g))
                have rd := rd.below b93
                have k2 := k2.below b93 k2.lt
                have k3 := k3.below b93 k3.lt
                have k4 := k4.below b93 k4.lt
                have ovl := own_below ovl b93
                have ow := own_below ow b93
                show wpList _ _ _ (_ :: _) _ _
                refine app_on (e2 := [(0, true, .val (.pointer (some ⟨g, 0, none⟩))), (2, true, .val (.pointer (some ⟨g2, 0, none⟩))), (3, true, .val (.pointer (some ⟨g3, 0, none⟩))), (48, true, .int .u64 (n : Int)), (49, true, .int .u64 (i : Int))]) 67 83 id s93 rfl rfl (by decide) rfl Try.underlying65 hm0 hm1 hm2 hm3 rfl (by decide) ow (s93.get 67 rfl) rfl rfl (mapF.one _) (by unfold maxLen; omega) (by omega) z93.size (vv 0 rfl (vv 2 rfl (vv 3 rfl (vv 48 rfl (vv 49 rfl vn))))) fun v2 a94 w94 ow2 g94 s94 => ?_
                have hnk2 := own_ne ow k2 (by decide)
                have k2 := k2.grown g94 hnk2
                have hnk3 := own_ne ow k3 (by decide)
                have k3 := k3.grown g94 hnk3
                have hnk4 := own_ne ow k4 (by decide)
                have k4 := k4.grown g94 hnk4
                obtain hvl := own_ne3 ovl ow (by decide)
                have ovl := ovl.kept g94 hvl
                have rd := rd_grownO rd g94 (fun x hx => Nat.lt_of_lt_of_le hg (own_base ow hx))
                have z94 := grown_far z93 g94 (fun x hx => own_base ow hx)
                refine chainK 1 (cc rfl (p_faV0 fa_67_7 g0 (od rfl id)) cn) (by kernel_rfl) s94 fun a95 w95 b95 s95 => ?_
                have z95 := only_trans z94 (only_of_below b95 (some g))
                have rd := rd.below b95
                have k2 := k2.below b95 k2.lt
                have k3 := k3.below b95 k3.lt
                have k4 := k4.below b95 k4.lt
                have ovl := own_below ovl b95
                have ow2 := own_below ow2 b95
                show wpList _ _ _ (_ :: _) _ _
                have hnovl := own_ne ovl k3 (by decide)
                have hnow2 := own_ne ow2 k3 (by decide)
                refine cells_on (vs := [v2]) id s95 rfl rfl rfl (od rfl id) (od rfl id) (slice_one ow2).2 k3 (by simp) sz_65 (fun u hu => by rw [List.mem_singleton.1 hu]; exact (slice_one ow2).1) (vv 0 rfl (vv 2 rfl (vv 3 rfl (vv 48 rfl (vv 49 rfl vn))))) fun a96 w96 k3 g96 s96 => ?_
                have k3 : Blk w96 g3 67 #[.int .i64 x1, .int .i64 x2, .int .i64 l1.d, vl, .int .i64 0, .slice none 0 0, .int .i64 0, .int .i64 0, .slice none 0 0, v2, .int .i64 0, .int .i64 0] := k3
                have k2 := k2.grown g96 (by simp; omega)
                have k4 := k4.grown g96 (by simp; omega)
                have ovl := own_grown3 ovl g96 hnovl
                have ow2 := own_grown3 ow2 g96 hnow2
                have rd := rd_grownO rd g96 (fun x e => by cases e; omega)
                have z96 := grown_far z95 g96 (fun x e => by cases e; exact hg3)
                refine wpList_done ?_
                refine flowT (s96.keep (sc 0 rfl (sc 2 rfl (sc 3 rfl (sc 48 rfl (sc 49 rfl sn)))))) (by kernel_rfl) (cc rfl (p_binE (n' := ((i + 1 : Nat) : Int)) (by rw [IntKind.wrap_u64]; omega) g0 (od rfl id) (oc _) b_add_23)
                    (cc rfl (p_move g0 (od rfl id)) cn)) fun a97 w97 b97 s97 => ?_
                have z97 := only_trans z96 (only_of_below b97 (some g))
                have rd := rd.below b97
                have k2 := k2.below b97 k2.lt
                have k3 := k3.below b97 k3.lt
                have k4 := k4.below b97 k4.lt
                have ovl := own_below ovl b97
                have ow2 := own_below ow2 b97
                exact ⟨hin, v2, ms ++ [(mapR5 bs s).1], (mapR5 bs s).2, ⟨rd, k2, k3, ovl, by rw [List.length_append, List.flatMap_append, hm5]; exact ow2, by rw [List.append_assoc]; exact hgo, by simp [hlen], z97⟩, s97.to _ ⟨rfl, rfl, rfl, rfl, rfl, True.intro⟩⟩
        · -- false
          obtain rfl : i = n := by have := of_decide_eq_false h50; (try dsimp only at this); omega
          have heq : manyR mapR5 i bs t4 = (ms, s) := by rw [heq, Nat.sub_self]; simp [manyR]
          refine wp_exit ?_
          refine wp_seq ?_
          refine wp_region_lit ?_
          show wpList _ _ _ (_ :: _) _ _
          have s44 := (s44.keep (sc 2 rfl (sc 3 rfl sn)))
          refine ldrowV_on s44 rfl rfl (by decide) rfl (od rfl id) k3 u_67 ur_67 sz_67 fun a98 s98 => ?_
          have z98 := z44
          show wpList _ _ _ (_ :: _) _ _
          have hnovl := own_ne ovl k2 (by decide)
          have hnow := own_ne ow k2 (by decide)
          refine cells_on (vs := (#[.int .i64 x1, .int .i64 x2, .int .i64 l1.d, vl, .int .i64 0, .slice none 0 0, .int .i64 0, .int .i64 0, .slice none 0 0, v, .int .i64 0, .int .i64 0] : Array Value).toList) id s98 rfl rfl rfl (od rfl id) (od rfl id) rfl k2 (by simp) sz_67 (obL_ones (slice_one ovl).1 rfl rfl (slice_one ow).1) (vv 2 rfl vn) fun a99 w99 k2 g99 s99 => ?_
          have k2 : Blk w99 g2 67 #[.int .i64 x1, .int .i64 x2, .int .i64 l1.d, vl, .int .i64 0, .slice none 0 0, .int .i64 0, .int .i64 0, .slice none 0 0, v, .int .i64 0, .int .i64 0] := k2
          have k3 := k3.grown g99 (by simp; omega)
          have ovl := own_grown3 ovl g99 hnovl
          have ow := own_grown3 ow g99 hnow
          have rd := rd_grownO rd g99 (fun x e => by cases e; omega)
          have z99 := grown_far z98 g99 (fun x e => by cases e; exact hg2)
          refine wpList_done ?_
          have hX : obR bs (k, b) = (obOf (x1, x2, l1, (bdR x1 bs t3).1), (bdR x1 bs t3).2) := by rw [ob_read, ← ex1, ← et1, ← ex2, ← et2, ← el1, ← et3]
          rw [bd_4 p4, ← ex4, ← et4, hn, Int.toNat_natCast, heq] at hX
          rw [hX]
          refine wp_ret ?_
          exact bodyPost_ret (results_cell_row rfl _ _ g2 67 #[.int .i64 x1, .int .i64 x2, .int .i64 l1.d, vl, .int .i64 0, .slice none 0 0, .int .i64 0, .int .i64 0, .slice none 0 0, v, .int .i64 0, .int .i64 0] (0, 0) _ (s99.get 2 rfl) k2 u_67 (by kernel_rfl) (by kernel_rfl)) s99.defers ⟨vl, .slice none 0 0, .slice none 0 0, v, rfl, ⟨ovl, (World.ownsRow_nil _ _ _ _), (World.ownsRow_nil _ _ _ _), ow⟩, rd, z99⟩
      · -- false
        have p4 : ¬ x1 = 4 := by simpa using h45
        refine wp_seq ?_
        refine wp_seq ?_
        refine flowC mixed (s39.keep (sc 0 rfl (sc 2 rfl (sc 3 rfl (sc 17 rfl sn))))) (by kernel_rfl) (by kernel_rfl) (cc rfl (p_bin g0 (od rfl id) (oc _) b_eql_3)
            (cc rfl (p_assign g0 (od rfl id)) cn)) fun a100 w100 b100 s100 => ?_
        have z100 := only_trans z39 (only_of_below b100 (some g))
        have rd := rd.below b100
        have k2 := k2.below b100 k2.lt
        have k3 := k3.below b100 k3.lt
        have ovl := own_below ovl b100
        refine s100.cond 87 rfl (fun h87 => ?_) (fun h87 => ?_)
        · -- true
          have p3 : x1 = 3 := by simpa using h87
          refine wp_skip ?_
          refine s100.cond 87 rfl (fun _ => ?_) (fun h => absurd h (by rw [h87]; simp))
          refine wp_seq ?_
          refine wp_region_lit ?_
          refine chainK 1 (cc rfl (p_move g0 (od rfl id)) cn) (by kernel_rfl) (s100.keep (sc 0 rfl (sc 2 rfl (sc 3 rfl sn)))) fun a101 w101 b101 s101 => ?_
          have z101 := only_trans z100 (only_of_below b101 (some g))
          have rd := rd.below b101
          have k2 := k2.below b101 k2.lt
          have k3 := k3.below b101 k3.lt
          have ovl := own_below ovl b101
          show wpList _ _ _ (_ :: _) _ _
          have q90 : a101.tmps.getD 90 undef = .pointer (some ⟨g, 0, none⟩) := s101.get 90 rfl
          refine lab_on [.tmp 90] s101 (fun _ => rfl) (by simp [Region.wanted]) (fun _ _ => by kernel_rfl) rfl (by decide) (show Calls Try.prog 40 #[a101.tmps.getD 90 undef] w101 _ from by rw [q90]; exact cLab (k := t3.1) (b := t3.2) rd hB hm) fun vc hxvc a102 w102 ovc rd g102 s102 => ?_
          have k2 := k2.grown g102 (by simp; omega)
          have k3 := k3.grown g102 (by simp; omega)
          have ovl := own_grown ovl g102 hg
          have ovc := own_mono ovc z101.size
          have z102 := only_trans z101 g102
          obtain ⟨l2, el2⟩ : ∃ x, x = (labX bs t3).1 := ⟨_, rfl⟩
          obtain ⟨t4, et4⟩ : ∃ x, x = (labX bs t3).2 := ⟨_, rfl⟩
          change Pk.RdAt w102 g bs (labX bs t3).2.1 (labX bs t3).2.2 at rd
          rw [← et4] at rd
          have hvvc : a102.tmps.getD 91 undef = .agg #[.int .i64 (labX bs t3).1.d, vc] := by obtain ⟨cs, q1, q2⟩ := s102.get 91 rfl; obtain rfl : cs = _ := q2; exact q1
          have s102 := s102.more 91 (y := .val (.agg #[.int .i64 (labX bs t3).1.d, vc])) hvvc
          have s102 := s102.keep (sc 0 rfl (sc 2 rfl (sc 3 rfl (sc 90 rfl (sc 91 rfl sn)))))
          have hxvc := ex_ok (labX bs t3).1.d ovc
          change w102.ownsRow _ 90 2 vc (labX bs t3).1.ps.length ((labX bs t3).1.ps.flatMap prE) at ovc
          rw [← el2] at s102 ovc hxvc
          refine chainK 1 (cc rfl (p_faV0 fa_67_3 g0 (od rfl id)) cn) (by kernel_rfl) s102 fun a103 w103 b103 s103 => ?_
          have z103 := only_trans z102 (only_of_below b103 (some g))
          have rd := rd.below b103
          have k2 := k2.below b103 k2.lt
          have k3 := k3.below b103 k3.lt
          have ovl := own_below ovl b103
          have ovc := own_below ovc b103
          show wpList _ _ _ (_ :: _) _ _
          have hnovl := own_ne ovl k3 (by decide)
          have hnovc := own_ne ovc k3 (by decide)
          refine cells_on (vs := [.int .i64 l2.d, vc]) id s103 rfl rfl rfl (od rfl id) (od rfl id) rfl k3 (by simp) sz_39 hxvc (vv 0 rfl (vv 2 rfl (vv 3 rfl vn))) fun a104 w104 k3 g104 s104 => ?_
          have k3 : Blk w104 g3 67 #[.int .i64 x1, .int .i64 x2, .int .i64 l1.d, vl, .int .i64 l2.d, vc, .int .i64 0, .int .i64 0, .slice none 0 0, .slice none 0 0, .int .i64 0, .int .i64 0] := k3
          have k2 := k2.grown g104 (by simp; omega)
          have ovl := own_grown3 ovl g104 hnovl
          have ovc := own_grown3 ovc g104 hnovc
          have rd := rd_grownO rd g104 (fun x e => by cases e; omega)
          have z104 := grown_far z103 g104 (fun x e => by cases e; exact hg3)
          refine wpList_done ?_
          refine wp_region_lit ?_
          refine chainK 1 (cc rfl (p_move g0 (od rfl id)) cn) (by kernel_rfl) (s104.keep (sc 0 rfl (sc 2 rfl (sc 3 rfl sn)))) fun a105 w105 b105 s105 => ?_
          have z105 := only_trans z104 (only_of_below b105 (some g))
          have rd := rd.below b105
          have k2 := k2.below b105 k2.lt
          have k3 := k3.below b105 k3.lt
          have ovl := own_below ovl b105
          have ovc := own_below ovc b105
          show wpList _ _ _ (_ :: _) _ _
          have q93 : a105.tmps.getD 93 undef = .pointer (some ⟨g, 0, none⟩) := s105.get 93 rfl
          refine rd_on [.tmp 93, .const (.int .i64 1)] s105 (fun _ => rfl) (by simp [Region.wanted]) (fun _ _ => by kernel_rfl) rfl (by decide) (show Calls Try.prog 32 #[a105.tmps.getD 93 undef, .int .i64 1] w105 _ from by rw [q93]; exact cNumS (s := t4) rd hB hm (n := 1) (by decide) (by decide)) fun a106 w106 rd g106 s106 => ?_
          have k2 := k2.grown g106 (by simp; omega)
          have k3 := k3.grown g106 (by simp; omega)
          have ovl := own_grown ovl g106 hg
          have ovc := own_grown ovc g106 hg
          have z106 := only_trans z105 g106
          have bx5 := nx_bd hB t4 1
          obtain ⟨x5, ex5⟩ : ∃ x, x = (nx bs t4 1).1 := ⟨_, rfl⟩
          obtain ⟨t5, et5⟩ : ∃ x, x = (nx bs t4 1).2 := ⟨_, rfl⟩
          rw [← et5] at rd
          rw [← ex5] at s106 bx5
          have bx5 : 0 ≤ x5 ∧ x5 < 256 := bx5
          have ix5 := i64_id bx5
          refine chainK 2 (cc rfl (p_cvE (n' := x5) ix5 g0 (od rfl id) cv_23_3)
              (cc rfl (p_move g0 (od rfl id)) cn)) (by kernel_rfl) s106 fun a107 w107 b107 s107 => ?_
          have z107 := only_trans z106 (only_of_below b107 (some g))
          have rd := rd.below b107
          have k2 := k2.below b107 k2.lt
          have k3 := k3.below b107 k3.lt
          have ovl := own_below ovl b107
          have ovc := own_below ovc b107
          show wpList _ _ _ (_ :: _) _ _
          have q96 : a107.tmps.getD 96 undef = .pointer (some ⟨g, 0, none⟩) := s107.get 96 rfl
          refine rd_on [.tmp 96, .const (.int .i64 4)] s107 (fun _ => rfl) (by simp [Region.wanted]) (fun _ _ => by kernel_rfl) rfl (by decide) (show Calls Try.prog 32 #[a107.tmps.getD 96 undef, .int .i64 4] w107 _ from by rw [q96]; exact cNumS (s := t5) rd hB hm (n := 4) (by decide) (by decide)) fun a108 w108 rd g108 s108 => ?_
          have k2 := k2.grown g108 (by simp; omega)
          have k3 := k3.grown g108 (by simp; omega)
          have ovl := own_grown ovl g108 hg
          have ovc := own_grown ovc g108 hg
          have z108 := only_trans z107 g108
          have bx6 := nx_bd hB t5 4
          obtain ⟨x6, ex6⟩ : ∃ x, x = (nx bs t5 4).1 := ⟨_, rfl⟩
          obtain ⟨t6, et6⟩ : ∃ x, x = (nx bs t5 4).2 := ⟨_, rfl⟩
          rw [← et6] at rd
          rw [← ex6] at s108 bx6
          have bx6 : 0 ≤ x6 ∧ x6 < 4294967296 := bx6
          have ix6 := i64_id bx6
          refine chainK 2 (cc rfl (p_cvE (n' := x6) ix6 g0 (od rfl id) cv_23_3)
              (cc rfl (p_faV0 fa_67_8 g0 (od rfl id)) cn)) (by kernel_rfl) s108 fun a109 w109 b109 s109 => ?_
          have z109 := only_trans z108 (only_of_below b109 (some g))
          have rd := rd.below b109
          have k2 := k2.below b109 k2.lt
          have k3 := k3.below b109 k3.lt
          have ovl := own_below ovl b109
          have ovc := own_below ovc b109
          show wpList _ _ _ (_ :: _) _ _
          have hnovl := own_ne ovl k3 (by decide)
          have hnovc := own_ne ovc k3 (by decide)
          refine cells_on (vs := [.int .i64 x5]) id s109 rfl rfl rfl (od rfl id) (od rfl id) rfl k3 (by simp) sz_3 (by simp [Value.oneCell']) (vv 0 rfl (vv 2 rfl (vv 3 rfl (vv 98 rfl vn)))) fun a110 w110 k3 g110 s110 => ?_
          have k3 : Blk w110 g3 67 #[.int .i64 x1, .int .i64 x2, .int .i64 l1.d, vl, .int .i64 l2.d, vc, .int .i64 0, .int .i64 0, .slice none 0 0, .slice none 0 0, .int .i64 x5, .int .i64 0] := k3
          have k2 := k2.grown g110 (by simp; omega)
          have ovl := own_grown3 ovl g110 hnovl
          have ovc := own_grown3 ovc g110 hnovc
          have rd := rd_grownO rd g110 (fun x e => by cases e; omega)
          have z110 := grown_far z109 g110 (fun x e => by cases e; exact hg3)
          refine chainK 1 (cc rfl (p_faV0 fa_67_9 g0 (od rfl id)) cn) (by kernel_rfl) s110 fun a111 w111 b111 s111 => ?_
          have z111 := only_trans z110 (only_of_below b111 (some g))
          have rd := rd.below b111
          have k2 := k2.below b111 k2.lt
          have k3 := k3.below b111 k3.lt
          have ovl := own_below ovl b111
          have ovc := own_below ovc b111
          show wpList _ _ _ (_ :: _) _ _
          have hnovl := own_ne ovl k3 (by decide)
          have hnovc := own_ne ovc k3 (by decide)
          refine cells_on (vs := [.int .i64 x6]) id s111 rfl rfl rfl (od rfl id) (od rfl id) rfl k3 (by simp) sz_3 (by simp [Value.oneCell']) (vv 0 rfl (vv 2 rfl (vv 3 rfl vn))) fun a112 w112 k3 g112 s112 => ?_
          have k3 : Blk w112 g3 67 #[.int .i64 x1, .int .i64 x2, .int .i64 l1.d, vl, .int .i64 l2.d, vc, .int .i64 0, .int .i64 0, .slice none 0 0, .slice none 0 0, .int .i64 x5, .int .i64 x6] := k3
          have k2 := k2.grown g112 (by simp; omega)
          have ovl := own_grown3 ovl g112 hnovl
          have ovc := own_grown3 ovc g112 hnovc
          have rd := rd_grownO rd g112 (fun x e => by cases e; omega)
          have z112 := grown_far z111 g112 (fun x e => by cases e; exact hg3)
          refine wpList_done ?_
          refine wp_seq ?_
          refine wp_region_lit ?_
          show wpList _ _ _ (_ :: _) _ _
          have s112 := (s112.keep (sc 2 rfl (sc 3 rfl sn)))
          refine ldrowV_on s112 rfl rfl (by decide) rfl (od rfl id) k3 u_67 ur_67 sz_67 fun a113 s113 => ?_
          have z113 := z112
          show wpList _ _ _ (_ :: _) _ _
          have hnovl := own_ne ovl k2 (by decide)
          have hnovc := own_ne ovc k2 (by decide)
          refine cells_on (vs := (#[.int .i64 x1, .int .i64 x2, .int .i64 l1.d, vl, .int .i64 l2.d, vc, .int .i64 0, .int .i64 0, .slice none 0 0, .slice none 0 0, .int .i64 x5, .int .i64 x6] : Array Value).toList) id s113 rfl rfl rfl (od rfl id) (od rfl id) rfl k2 (by simp) sz_67 (obL_ones (slice_one ovl).1 (slice_one ovc).1 rfl rfl) (vv 2 rfl vn) fun a114 w114 k2 g114 s114 => ?_
          have k2 : Blk w114 g2 67 #[.int .i64 x1, .int .i64 x2, .int .i64 l1.d, vl, .int .i64 l2.d, vc, .int .i64 0, .int .i64 0, .slice none 0 0, .slice none 0 0, .int .i64 x5, .int .i64 x6] := k2
          have k3 := k3.grown g114 (by simp; omega)
          have ovl := own_grown3 ovl g114 hnovl
          have ovc := own_grown3 ovc g114 hnovc
          have rd := rd_grownO rd g114 (fun x e => by cases e; omega)
          have z114 := grown_far z113 g114 (fun x e => by cases e; exact hg2)
          refine wpList_done ?_
          have hX : obR bs (k, b) = (obOf (x1, x2, l1, (bdR x1 bs t3).1), (bdR x1 bs t3).2) := by rw [ob_read, ← ex1, ← et1, ← ex2, ← et2, ← el1, ← et3]
          rw [bd_3 (.inl p3), ← el2, ← et4, ← ex5, ← et5, ← ex6, ← et6] at hX
          rw [hX]
          refine wp_ret ?_
          exact bodyPost_ret (results_cell_row rfl _ _ g2 67 #[.int .i64 x1, .int .i64 x2, .int .i64 l1.d, vl, .int .i64 l2.d, vc, .int .i64 0, .int .i64 0, .slice none 0 0, .slice none 0 0, .int .i64 x5, .int .i64 x6] (0, 0) _ (s114.get 2 rfl) k2 u_67 (by kernel_rfl) (by kernel_rfl)) s114.defers ⟨vl, vc, .slice none 0 0, .slice none 0 0, rfl, ⟨ovl, ovc, (World.ownsRow_nil _ _ _ _), (World.ownsRow_nil _ _ _ _)⟩, rd, z114⟩
        · -- false
          have p3 : ¬ x1 = 3 := by simpa using h87
          refine flowT (s100.keep (sc 0 rfl (sc 2 rfl (sc 3 rfl (sc 17 rfl (sc 87 rfl sn)))))) (by kernel_rfl) (cc rfl (p_bin g0 (od rfl id) (oc _) b_eql_3)
              (cc rfl (p_assign g0 (od rfl id)) cn)) fun a115 w115 b115 s115 => ?_
          have z115 := only_trans z100 (only_of_below b115 (some g))
          have rd := rd.below b115
          have k2 := k2.below b115 k2.lt
          have k3 := k3.below b115 k3.lt
          have ovl := own_below ovl b115
          refine s115.cond 87 rfl (fun h89 => ?_) (fun h89 => ?_)
          · -- true
            have p5 : x1 = 5 := by simpa using h89
            refine wp_seq ?_
            refine wp_region_lit ?_
            refine chainK 1 (cc rfl (p_move g0 (od rfl id)) cn) (by kernel_rfl) (s115.keep (sc 0 rfl (sc 2 rfl (sc 3 rfl sn)))) fun a116 w116 b116 s116 => ?_
            have z116 := only_trans z115 (only_of_below b116 (some g))
            have rd := rd.below b116
            have k2 := k2.below b116 k2.lt
            have k3 := k3.below b116 k3.lt
            have ovl := own_below ovl b116
            show wpList _ _ _ (_ :: _) _ _
            have q90 : a116.tmps.getD 90 undef = .pointer (some ⟨g, 0, none⟩) := s116.get 90 rfl
            refine lab_on [.tmp 90] s116 (fun _ => rfl) (by simp [Region.wanted]) (fun _ _ => by kernel_rfl) rfl (by decide) (show Calls Try.prog 40 #[a116.tmps.getD 90 undef] w116 _ from by rw [q90]; exact cLab (k := t3.1) (b := t3.2) rd hB hm) fun vc hxvc a117 w117 ovc rd g117 s117 => ?_
            have k2 := k2.grown g117 (by simp; omega)
            have k3 := k3.grown g117 (by simp; omega)
            have ovl := own_grown ovl g117 hg
            have ovc := own_mono ovc z116.size
            have z117 := only_trans z116 g117
            obtain ⟨l2, el2⟩ : ∃ x, x = (labX bs t3).1 := ⟨_, rfl⟩
            obtain ⟨t4, et4⟩ : ∃ x, x = (labX bs t3).2 := ⟨_, rfl⟩
            change Pk.RdAt w117 g bs (labX bs t3).2.1 (labX bs t3).2.2 at rd
            rw [← et4] at rd
            have hvvc : a117.tmps.getD 91 undef = .agg #[.int .i64 (labX bs t3).1.d, vc] := by obtain ⟨cs, q1, q2⟩ := s117.get 91 rfl; obtain rfl : cs = _ := q2; exact q1
            have s117 := s117.more 91 (y := .val (.agg #[.int .i64 (labX bs t3).1.d, vc])) hvvc
            have s117 := s117.keep (sc 0 rfl (sc 2 rfl (sc 3 rfl (sc 90 rfl (sc 91 rfl sn)))))
            have hxvc := ex_ok (labX bs t3).1.d ovc
            change w117.ownsRow _ 90 2 vc (labX bs t3).1.ps.length ((labX bs t3).1.ps.flatMap prE) at ovc
            rw [← el2] at s117 ovc hxvc
            refine chainK 1 (cc rfl (p_faV0 fa_67_3 g0 (od rfl id)) cn) (by kernel_rfl) s117 fun a118 w118 b118 s118 => ?_
            have z118 := only_trans z117 (only_of_below b118 (some g))
            have rd := rd.below b118
            have k2 := k2.below b118 k2.lt
            have k3 := k3.below b118 k3.lt
            have ovl := own_below ovl b118
            have ovc := own_below ovc b118
            show wpList _ _ _ (_ :: _) _ _
            have hnovl := own_ne ovl k3 (by decide)
            have hnovc := own_ne ovc k3 (by decide)
            refine cells_on (vs := [.int .i64 l2.d, vc]) id s118 rfl rfl rfl (od rfl id) (od rfl id) rfl k3 (by simp) sz_39 hxvc (vv 0 rfl (vv 2 rfl (vv 3 rfl vn))) fun a119 w119 k3 g119 s119 => ?_
            have k3 : Blk w119 g3 67 #[.int .i64 x1, .int .i64 x2, .int .i64 l1.d, vl, .int .i64 l2.d, vc, .int .i64 0, .int .i64 0, .slice none 0 0, .slice none 0 0, .int .i64 0, .int .i64 0] := k3
            have k2 := k2.grown g119 (by simp; omega)
            have ovl := own_grown3 ovl g119 hnovl
            have ovc := own_grown3 ovc g119 hnovc
            have rd := rd_grownO rd g119 (fun x e => by cases e; omega)
            have z119 := grown_far z118 g119 (fun x e => by cases e; exact hg3)
            refine wpList_done ?_
            refine wp_region_lit ?_
            refine chainK 1 (cc rfl (p_move g0 (od rfl id)) cn) (by kernel_rfl) (s119.keep (sc 0 rfl (sc 2 rfl (sc 3 rfl sn)))) fun a120 w120 b120 s120 => ?_
            have z120 := only_trans z119 (only_of_below b120 (some g))
            have rd := rd.below b120
            have k2 := k2.below b120 k2.lt
            have k3 := k3.below b120 k3.lt
            have ovl := own_below ovl b120
            have ovc := own_below ovc b120
            show wpList _ _ _ (_ :: _) _ _
            have q93 : a120.tmps.getD 93 undef = .pointer (some ⟨g, 0, none⟩) := s120.get 93 rfl
            refine rd_on [.tmp 93, .const (.int .i64 1)] s120 (fun _ => rfl) (by simp [Region.wanted]) (fun _ _ => by kernel_rfl) rfl (by decide) (show Calls Try.prog 32 #[a120.tmps.getD 93 undef, .int .i64 1] w120 _ from by rw [q93]; exact cNumS (s := t4) rd hB hm (n := 1) (by decide) (by decide)) fun a121 w121 rd g121 s121 => ?_
            have k2 := k2.grown g121 (by simp; omega)
            have k3 := k3.grown g121 (by simp; omega)
            have ovl := own_grown ovl g121 hg
            have ovc := own_grown ovc g121 hg
            have z121 := only_trans z120 g121
            have bx5 := nx_bd hB t4 1
            obtain ⟨x5, ex5⟩ : ∃ x, x = (nx bs t4 1).1 := ⟨_, rfl⟩
            obtain ⟨t5, et5⟩ : ∃ x, x = (nx bs t4 1).2 := ⟨_, rfl⟩
            rw [← et5] at rd
            rw [← ex5] at s121 bx5
            have bx5 : 0 ≤ x5 ∧ x5 < 256 := bx5
            have ix5 := i64_id bx5
            refine chainK 2 (cc rfl (p_cvE (n' := x5) ix5 g0 (od rfl id) cv_23_3)
                (cc rfl (p_move g0 (od rfl id)) cn)) (by kernel_rfl) s121 fun a122 w122 b122 s122 => ?_
            have z122 := only_trans z121 (only_of_below b122 (some g))
            have rd := rd.below b122
            have k2 := k2.below b122 k2.lt
            have k3 := k3.below b122 k3.lt
            have ovl := own_below ovl b122
            have ovc := own_below ovc b122
            show wpList _ _ _ (_ :: _) _ _
            have q96 : a122.tmps.getD 96 undef = .pointer (some ⟨g, 0, none⟩) := s122.get 96 rfl
            refine rd_on [.tmp 96, .const (.int .i64 4)] s122 (fun _ => rfl) (by simp [Region.wanted]) (fun _ _ => by kernel_rfl) rfl (by decide) (show Calls Try.prog 32 #[a122.tmps.getD 96 undef, .int .i64 4] w122 _ from by rw [q96]; exact cNumS (s := t5) rd hB hm (n := 4) (by decide) (by decide)) fun a123 w123 rd g123 s123 => ?_
            have k2 := k2.grown g123 (by simp; omega)
            have k3 := k3.grown g123 (by simp; omega)
            have ovl := own_grown ovl g123 hg
            have ovc := own_grown ovc g123 hg
            have z123 := only_trans z122 g123
            have bx6 := nx_bd hB t5 4
            obtain ⟨x6, ex6⟩ : ∃ x, x = (nx bs t5 4).1 := ⟨_, rfl⟩
            obtain ⟨t6, et6⟩ : ∃ x, x = (nx bs t5 4).2 := ⟨_, rfl⟩
            rw [← et6] at rd
            rw [← ex6] at s123 bx6
            have bx6 : 0 ≤ x6 ∧ x6 < 4294967296 := bx6
            have ix6 := i64_id bx6
            refine chainK 2 (cc rfl (p_cvE (n' := x6) ix6 g0 (od rfl id) cv_23_3)
                (cc rfl (p_faV0 fa_67_8 g0 (od rfl id)) cn)) (by kernel_rfl) s123 fun a124 w124 b124 s124 => ?_
            have z124 := only_trans z123 (only_of_below b124 (some g))
            have rd := rd.below b124
            have k2 := k2.below b124 k2.lt
            have k3 := k3.below b124 k3.lt
            have ovl := own_below ovl b124
            have ovc := own_below ovc b124
            show wpList _ _ _ (_ :: _) _ _
            have hnovl := own_ne ovl k3 (by decide)
            have hnovc := own_ne ovc k3 (by decide)
            refine cells_on (vs := [.int .i64 x5]) id s124 rfl rfl rfl (od rfl id) (od rfl id) rfl k3 (by simp) sz_3 (by simp [Value.oneCell']) (vv 0 rfl (vv 2 rfl (vv 3 rfl (vv 98 rfl vn)))) fun a125 w125 k3 g125 s125 => ?_
            have k3 : Blk w125 g3 67 #[.int .i64 x1, .int .i64 x2, .int .i64 l1.d, vl, .int .i64 l2.d, vc, .int .i64 0, .int .i64 0, .slice none 0 0, .slice none 0 0, .int .i64 x5, .int .i64 0] := k3
            have k2 := k2.grown g125 (by simp; omega)
            have ovl := own_grown3 ovl g125 hnovl
            have ovc := own_grown3 ovc g125 hnovc
            have rd := rd_grownO rd g125 (fun x e => by cases e; omega)
            have z125 := grown_far z124 g125 (fun x e => by cases e; exact hg3)
            refine chainK 1 (cc rfl (p_faV0 fa_67_9 g0 (od rfl id)) cn) (by kernel_rfl) s125 fun a126 w126 b126 s126 => ?_
            have z126 := only_trans z125 (only_of_below b126 (some g))
            have rd := rd.below b126
            have k2 := k2.below b126 k2.lt
            have k3 := k3.below b126 k3.lt
            have ovl := own_below ovl b126
            have ovc := own_below ovc b126
            show wpList _ _ _ (_ :: _) _ _
            have hnovl := own_ne ovl k3 (by decide)
            have hnovc := own_ne ovc k3 (by decide)
            refine cells_on (vs := [.int .i64 x6]) id s126 rfl rfl rfl (od rfl id) (od rfl id) rfl k3 (by simp) sz_3 (by simp [Value.oneCell']) (vv 0 rfl (vv 2 rfl (vv 3 rfl vn))) fun a127 w127 k3 g127 s127 => ?_
            have k3 : Blk w127 g3 67 #[.int .i64 x1, .int .i64 x2, .int .i64 l1.d, vl, .int .i64 l2.d, vc, .int .i64 0, .int .i64 0, .slice none 0 0, .slice none 0 0, .int .i64 x5, .int .i64 x6] := k3
            have k2 := k2.grown g127 (by simp; omega)
            have ovl := own_grown3 ovl g127 hnovl
            have ovc := own_grown3 ovc g127 hnovc
            have rd := rd_grownO rd g127 (fun x e => by cases e; omega)
            have z127 := grown_far z126 g127 (fun x e => by cases e; exact hg3)
            refine wpList_done ?_
            refine wp_seq ?_
            refine wp_region_lit ?_
            show wpList _ _ _ (_ :: _) _ _
            have s127 := (s127.keep (sc 2 rfl (sc 3 rfl sn)))
            refine ldrowV_on s127 rfl rfl (by decide) rfl (od rfl id) k3 u_67 ur_67 sz_67 fun a128 s128 => ?_
            have z128 := z127
            show wpList _ _ _ (_ :: _) _ _
            have hnovl := own_ne ovl k2 (by decide)
            have hnovc := own_ne ovc k2 (by decide)
            refine cells_on (vs := (#[.int .i64 x1, .int .i64 x2, .int .i64 l1.d, vl, .int .i64 l2.d, vc, .int .i64 0, .int .i64 0, .slice none 0 0, .slice none 0 0, .int .i64 x5, .int .i64 x6] : Array Value).toList) id s128 rfl rfl rfl (od rfl id) (od rfl id) rfl k2 (by simp) sz_67 (obL_ones (slice_one ovl).1 (slice_one ovc).1 rfl rfl) (vv 2 rfl vn) fun a129 w129 k2 g129 s129 => ?_
            have k2 : Blk w129 g2 67 #[.int .i64 x1, .int .i64 x2, .int .i64 l1.d, vl, .int .i64 l2.d, vc, .int .i64 0, .int .i64 0, .slice none 0 0, .slice none 0 0, .int .i64 x5, .int .i64 x6] := k2
            have k3 := k3.grown g129 (by simp; omega)
            have ovl := own_grown3 ovl g129 hnovl
            have ovc := own_grown3 ovc g129 hnovc
            have rd := rd_grownO rd g129 (fun x e => by cases e; omega)
            have z129 := grown_far z128 g129 (fun x e => by cases e; exact hg2)
            refine wpList_done ?_
            have hX : obR bs (k, b) = (obOf (x1, x2, l1, (bdR x1 bs t3).1), (bdR x1 bs t3).2) := by rw [ob_read, ← ex1, ← et1, ← ex2, ← et2, ← el1, ← et3]
            rw [bd_3 (.inr p5), ← el2, ← et4, ← ex5, ← et5, ← ex6, ← et6] at hX
            rw [hX]
            refine wp_ret ?_
            exact bodyPost_ret (results_cell_row rfl _ _ g2 67 #[.int .i64 x1, .int .i64 x2, .int .i64 l1.d, vl, .int .i64 l2.d, vc, .int .i64 0, .int .i64 0, .slice none 0 0, .slice none 0 0, .int .i64 x5, .int .i64 x6] (0, 0) _ (s129.get 2 rfl) k2 u_67 (by kernel_rfl) (by kernel_rfl)) s129.defers ⟨vl, vc, .slice none 0 0, .slice none 0 0, rfl, ⟨ovl, ovc, (World.ownsRow_nil _ _ _ _), (World.ownsRow_nil _ _ _ _)⟩, rd, z129⟩
          · -- false
            have p5 : ¬ x1 = 5 := by simpa using h89
            refine wp_seq ?_
            refine wp_region_lit ?_
            refine chainK 1 (cc rfl (p_faV0 fa_67_0 g0 (od rfl id)) cn) (by kernel_rfl) (s115.keep (sc 0 rfl (sc 2 rfl (sc 3 rfl sn)))) fun a130 w130 b130 s130 => ?_
            have z130 := only_trans z115 (only_of_below b130 (some g))
            have rd := rd.below b130
            have k2 := k2.below b130 k2.lt
            have k3 := k3.below b130 k3.lt
            have ovl := own_below ovl b130
            show wpList _ _ _ (_ :: _) _ _
            refine ldcellV_on (k := 0) (v := .int .i64 x1) s130 rfl (by decide) rfl (fun ev w b off v h1 h2 => ld_3 ev w b off v h1 h2) (od rfl id) k3 rfl fun a131 s131 => ?_
            have z131 := z130
            refine chainT (t := []) (cc rfl (p_bin g0 (od rfl id) (oc _) b_neq_3) cn) (by kernel_rfl) s131 fun a132 w132 b132 s132 => wpList_done ?_
            have z132 := only_trans z131 (only_of_below b132 (some g))
            have rd := rd.below b132
            have k2 := k2.below b132 k2.lt
            have k3 := k3.below b132 k3.lt
            have ovl := own_below ovl b132
            refine s132.cond 20 rfl (fun h20 => ?_) (fun h20 => ?_)
            · -- true
              have p6 : ¬ x1 = 6 := by simpa using h20
              refine wp_region_lit ?_
              refine chainK 1 (cc rfl (p_move g0 (od rfl id)) cn) (by kernel_rfl) (s132.keep (sc 0 rfl (sc 2 rfl (sc 3 rfl sn)))) fun a133 w133 b133 s133 => ?_
              have z133 := only_trans z132 (only_of_below b133 (some g))
              have rd := rd.below b133
              have k2 := k2.below b133 k2.lt
              have k3 := k3.below b133 k3.lt
              have ovl := own_below ovl b133
              show wpList _ _ _ (_ :: _) _ _
              have q21 : a133.tmps.getD 21 undef = .pointer (some ⟨g, 0, none⟩) := s133.get 21 rfl
              refine rd_on [.tmp 21] s133 (fun _ => rfl) (by simp [Region.wanted]) (fun _ _ => by kernel_rfl) rfl (by decide) (show Calls Try.prog 39 #[a133.tmps.getD 21 undef] w133 _ from by rw [q21]; exact cFail rd) fun a134 w134 rd g134 s134 => ?_
              have k2 := k2.grown g134 (by simp; omega)
              have k3 := k3.grown g134 (by simp; omega)
              have ovl := own_grown ovl g134 hg
              have z134 := only_trans z133 g134
              refine wpList_done ?_
              refine wp_seq ?_
              refine wp_region_lit ?_
              show wpList _ _ _ (_ :: _) _ _
              have s134 := (s134.keep (sc 2 rfl (sc 3 rfl sn)))
              refine ldrowV_on s134 rfl rfl (by decide) rfl (od rfl id) k3 u_67 ur_67 sz_67 fun a135 s135 => ?_
              have z135 := z134
              show wpList _ _ _ (_ :: _) _ _
              have hnovl := own_ne ovl k2 (by decide)
              refine cells_on (vs := (#[.int .i64 x1, .int .i64 x2, .int .i64 l1.d, vl, .int .i64 0, .slice none 0 0, .int .i64 0, .int .i64 0, .slice none 0 0, .slice none 0 0, .int .i64 0, .int .i64 0] : Array Value).toList) id s135 rfl rfl rfl (od rfl id) (od rfl id) rfl k2 (by simp) sz_67 (obL_ones (slice_one ovl).1 rfl rfl rfl) (vv 2 rfl vn) fun a136 w136 k2 g136 s136 => ?_
              have k2 : Blk w136 g2 67 #[.int .i64 x1, .int .i64 x2, .int .i64 l1.d, vl, .int .i64 0, .slice none 0 0, .int .i64 0, .int .i64 0, .slice none 0 0, .slice none 0 0, .int .i64 0, .int .i64 0] := k2
              have k3 := k3.grown g136 (by simp; omega)
              have ovl := own_grown3 ovl g136 hnovl
              have rd := rd_grownO rd g136 (fun x e => by cases e; omega)
              have z136 := grown_far z135 g136 (fun x e => by cases e; exact hg2)
              refine wpList_done ?_
              have hX : obR bs (k, b) = (obOf (x1, x2, l1, (bdR x1 bs t3).1), (bdR x1 bs t3).2) := by rw [ob_read, ← ex1, ← et1, ← ex2, ← et2, ← el1, ← et3]
              rw [bd_0 p1 p2 p4 (fun h => h.elim p3 p5) p6] at hX
              rw [hX]
              refine wp_ret ?_
              exact bodyPost_ret (results_cell_row rfl _ _ g2 67 #[.int .i64 x1, .int .i64 x2, .int .i64 l1.d, vl, .int .i64 0, .slice none 0 0, .int .i64 0, .int .i64 0, .slice none 0 0, .slice none 0 0, .int .i64 0, .int .i64 0] (0, 0) _ (s136.get 2 rfl) k2 u_67 (by kernel_rfl) (by kernel_rfl)) s136.defers ⟨vl, .slice none 0 0, .slice none 0 0, .slice none 0 0, rfl, ⟨ovl, (World.ownsRow_nil _ _ _ _), (World.ownsRow_nil _ _ _ _), (World.ownsRow_nil _ _ _ _)⟩, rd, z136⟩
            · -- false
              have p6 : x1 = 6 := by simpa using h20
              refine wp_skip ?_
              refine wp_seq ?_
              refine wp_region_lit ?_
              show wpList _ _ _ (_ :: _) _ _
              have s132 := (s132.keep (sc 2 rfl (sc 3 rfl sn)))
              refine ldrowV_on s132 rfl rfl (by decide) rfl (od rfl id) k3 u_67 ur_67 sz_67 fun a137 s137 => ?_
              have z137 := z132
              show wpList _ _ _ (_ :: _) _ _
              have hnovl := own_ne ovl k2 (by decide)
              refine cells_on (vs := (#[.int .i64 x1, .int .i64 x2, .int .i64 l1.d, vl, .int .i64 0, .slice none 0 0, .int .i64 0, .int .i64 0, .slice none 0 0, .slice none 0 0, .int .i64 0, .int .i64 0] : Array Value).toList) id s137 rfl rfl rfl (od rfl id) (od rfl id) rfl k2 (by simp) sz_67 (obL_ones (slice_one ovl).1 rfl rfl rfl) (vv 2 rfl vn) fun a138 w138 k2 g138 s138 => ?_
              have k2 : Blk w138 g2 67 #[.int .i64 x1, .int .i64 x2, .int .i64 l1.d, vl, .int .i64 0, .slice none 0 0, .int .i64 0, .int .i64 0, .slice none 0 0, .slice none 0 0, .int .i64 0, .int .i64 0] := k2
              have k3 := k3.grown g138 (by simp; omega)
              have ovl := own_grown3 ovl g138 hnovl
              have rd := rd_grownO rd g138 (fun x e => by cases e; omega)
              have z138 := grown_far z137 g138 (fun x e => by cases e; exact hg2)
              refine wpList_done ?_
              have hX : obR bs (k, b) = (obOf (x1, x2, l1, (bdR x1 bs t3).1), (bdR x1 bs t3).2) := by rw [ob_read, ← ex1, ← et1, ← ex2, ← et2, ← el1, ← et3]
              rw [bd_6 p6] at hX
              rw [hX]
              refine wp_ret ?_
              exact bodyPost_ret (results_cell_row rfl _ _ g2 67 #[.int .i64 x1, .int .i64 x2, .int .i64 l1.d, vl, .int .i64 0, .slice none 0 0, .int .i64 0, .int .i64 0, .slice none 0 0, .slice none 0 0, .int .i64 0, .int .i64 0] (0, 0) _ (s138.get 2 rfl) k2 u_67 (by kernel_rfl) (by kernel_rfl)) s138.defers ⟨vl, .slice none 0 0, .slice none 0 0, .slice none 0 0, rfl, ⟨ovl, (World.ownsRow_nil _ _ _ _), (World.ownsRow_nil _ _ _ _), (World.ownsRow_nil _ _ _ _)⟩, rd, z138⟩
end Go.Proofs.Ytihddficgpjgpaa.Y
namespace Go.Proofs.Ytihddficgpjgpaa.Y
open Go.RowKit Go.ChangeShapes Go.WideShapes Go.ChangeAt
abbrev Four := Value × Value × Value × Value
abbrev qO (p : Ob × Four) : List Value := [.int .i64 p.1.k, .int .i64 p.1.par, .int .i64 p.1.lab.d, p.2.1, .int .i64 p.1.clr.d, p.2.2.1, .int .i64 p.1.pg, .int .i64 p.1.nm, p.2.2.2.1, p.2.2.2.2, .int .i64 p.1.sp, .int .i64 p.1.pc]
/-- An object in rows of its own. -/
structure ObE (w : World) (B : Nat) (p : Ob × Four) : Prop where
  own : ObOwn w B p.1 p.2.1 p.2.2.1 p.2.2.2.1 p.2.2.2.2
  l : OKL p.1.lab 12
  c : OKL p.1.clr 12
/-- A list of such objects. -/
structure ObsAt (w : World) (B : Nat) (v : Value) (q : List (Ob × Four)) : Prop where
  own : w.ownsRow B 67 12 v q.length (q.flatMap qO)
  els : ∀ p ∈ q, ObE w B p
theorem own_whole {w w' : World} {B E k n : Nat} {v : Value} {xs : List Value} (h : w.ownsRow B E k v n xs) (hb : ∀ g, v.ownBlock = some g → w'.heap[g]? = w.heap[g]?) : w'.ownsRow B E k v n xs := by
  refine ⟨h.1, ?_⟩
  rcases h.2 with h3 | ⟨g, c, cur, e, h4, h5, r⟩
  · exact .inl h3
  · exact .inr ⟨g, c, cur, e, h4, (hb g (by rw [e]; rfl)).trans h5, r⟩
theorem own_lt {w : World} {B E k n g : Nat} {v : Value} {xs : List Value} (h : w.ownsRow B E k v n xs) (hg : v.ownBlock = some g) : g < w.heap.size := by
  obtain ⟨_, cs, hb⟩ := own_row_blk h hg
  exact hb.lt
theorem ObOwn.map {w w' : World} {B B' : Nat} {o : Ob} {vl vc vd vm : Value} (h : ObOwn w B o vl vc vd vm) (f : ∀ {E k n : Nat} {v : Value} {xs : List Value}, E ≠ 67 → w.ownsRow B E k v n xs → w'.ownsRow B' E k v n xs) : ObOwn w' B' o vl vc vd vm := ⟨f (by decide) h.l, f (by decide) h.c, f (by decide) h.d, f (by decide) h.m⟩
theorem ObE.below {w w' : World} {B : Nat} {p : Ob × Four} (h : ObE w B p) (hb : Below w.heap.size w w') : ObE w' B p := ⟨h.own.map fun _ h => own_below h hb, h.l, h.c⟩
theorem ObE.grown {w w' : World} {B g : Nat} {p : Ob × Four} (h : ObE w B p) (hg : w.grownBy w' (some g)) (hlt : g < B) : ObE w' B p := ⟨h.own.map fun _ h => own_grown h hg hlt, h.l, h.c⟩
theorem ObE.kept {w w' : World} {B B' n k : Nat} {p : Ob × Four} {v : Value} {xs : List Value} (h : ObE w B p) (ho : w.ownsRow B' 67 k v n xs) (hg : w.grownBy w' v.ownBlock) : ObE w' B p := ⟨h.own.map fun he h => h.kept hg (own_ne3 h ho (Ne.symm he)), h.l, h.c⟩
theorem ObE.blk {w w' : World} {B g : Nat} {p : Ob × Four} {t : TypeId} {cs : Array Value} (h : ObE w B p) (hB : Blk w g t cs) (ht : t = 59 ∨ t = 67) (hg : w.grownBy w' (some g)) : ObE w' B p := ⟨⟨own_grown3 h.own.l hg (own_ne h.own.l hB (by rcases ht with rfl | rfl <;> decide)), own_grown3 h.own.c hg (own_ne h.own.c hB (by rcases ht with rfl | rfl <;> decide)), own_grown3 h.own.d hg (own_ne h.own.d hB (by rcases ht with rfl | rfl <;> decide)), own_grown3 h.own.m hg (own_ne h.own.m hB (by rcases ht with rfl | rfl <;> decide))⟩, h.l, h.c⟩
theorem ObsAt.nil (w : World) (B : Nat) : ObsAt w B (.slice none 0 0) [] := ⟨World.ownsRow_nil _ _ _ _, fun _ h => by cases h⟩
theorem ObsAt.below {w w' : World} {B : Nat} {v : Value} {q : List (Ob × Four)} (h : ObsAt w B v q) (hb : Below w.heap.size w w') : ObsAt w' B v q := ⟨own_below h.own hb, fun p hp => (h.els p hp).below hb⟩
theorem ObsAt.grown {w w' : World} {B g : Nat} {v : Value} {q : List (Ob × Four)} (h : ObsAt w B v q) (hg : w.grownBy w' (some g)) (hlt : g < B) : ObsAt w' B v q := ⟨own_grown h.own hg hlt, fun p hp => (h.els p hp).grown hg hlt⟩
theorem ObsAt.blk {w w' : World} {B g : Nat} {v : Value} {q : List (Ob × Four)} {cs : Array Value} (h : ObsAt w B v q) (hB : Blk w g 59 cs) (hg : w.grownBy w' (some g)) : ObsAt w' B v q := ⟨own_grown3 h.own hg (own_ne h.own hB (by decide)), fun p hp => (h.els p hp).blk hB (.inl rfl) hg⟩
theorem ObsAt.app {w w' : World} {B : Nat} {v v' : Value} {p0 : Ob × Four} {q : List (Ob × Four)} (h : ObsAt w B v q) (hu : ObE w B p0) (ho : w'.ownsRow B 67 12 v' (q.length + 1) (q.flatMap qO ++ qO p0)) (hg : w.grownBy w' v.ownBlock) : ObsAt w' B v' (q ++ [p0]) :=
  ⟨by rw [List.length_append, List.flatMap_append]; simpa using ho, fun p hp => by
    rcases List.mem_append.1 hp with hp | hp
    · exact (h.els p hp).kept h.own hg
    · obtain rfl := List.mem_singleton.1 hp
      exact hu.kept h.own hg⟩
/-- Its cells are an object's. -/
theorem ob_cells {w : World} {F : Cell → Prop} {B : Nat} {p : Ob × Four} (h : ObE w B p) (hF : ∀ k : Cell, F k → k.1 < B) : obL.on w F (qO p) p.1 :=
  ⟨[_], _, rfl, rfl, [_], _, rfl, rfl, [_, _], _, rfl, ⟨raw_of_ownF h.own.l hF, h.l⟩, [_, _], _, rfl, ⟨raw_of_ownF h.own.c hF, h.c⟩, [_], _, rfl, rfl, [_], _, rfl, rfl,
    [_], _, rfl, sl_of_own byF h.own.d (fun x o hx _ hf => by have h1 := own_base h.own.d hx; have h2 := hF (x, o) hf; simp only at h2; omega),
    [_], _, rfl, sl_of_own mapF h.own.m (fun x o hx _ hf => by have h1 := own_base h.own.m hx; have h2 := hF (x, o) hf; simp only at h2; omega), [_], [_], rfl, rfl, rfl⟩
theorem flat_atK {α : Type} {f : α → List Value} {k : Nat} (hl : ∀ x, (f x).length = k) : ∀ (l : List α) (i : Nat) (hi : i < l.length) (j : Nat) (hj : j < (f l[i]).length), (l.flatMap f)[i * k + j]? = some (f l[i])[j]
  | x :: t, 0, _, j, hj => by
    rw [List.flatMap_cons, Nat.zero_mul, Nat.zero_add, List.getElem?_append_left (by simpa using hj)]
    simp at hj ⊢
  | x :: t, i + 1, hi, j, hj => by
    have h1 := hl x
    rw [List.flatMap_cons, List.getElem?_append_right (by rw [Nat.succ_mul]; omega), h1, show (i + 1) * k + j - k = i * k + j by rw [Nat.succ_mul]; omega]
    simpa using flat_atK hl t i (by simpa using hi) j (by simpa using hj)
theorem ObsAt.on {w : World} {F : Cell → Prop} {B : Nat} {v : Value} {q : List (Ob × Four)} (h : ObsAt w B v q) (hF : ∀ k : Cell, F k → k.1 < B) : (Sym.one (Lay.sl obL) (q.map (·.1))).on w F v := by
  rcases h.own.2 with ⟨rfl, h0⟩ | ⟨g, c, cur, rfl, hB, hg, hnc, _, hs, ht⟩
  · obtain rfl := List.eq_nil_of_length_eq_zero h0
    exact ⟨none, 0, rfl, fun h => absurd h (by simp), Nat.le_refl _⟩
  · refine ⟨some ⟨g, 0, none⟩, c, by rw [List.length_map], fun hl => ⟨g, 0, rfl, Blk.lt (g := g) (cs := cur) (t := 67) hg, fun i hi => ?_⟩, by rw [List.length_map]; exact hnc⟩
    have hi' : i < q.length := by simpa using hi
    have e1 : (q.map (·.1))[i] = q[i].1 := by simp
    refine ⟨qO q[i], by rw [e1]; exact ob_cells (h.els _ (List.getElem_mem hi')) hF, fun j hj => ?_⟩
    have hj2 : j < 12 := hj
    rw [Nat.zero_add]
    refine ⟨fun hf => by have := hF _ hf; simp only at this; omega, ?_⟩
    have h6 := flat_atK (f := qO) (k := 12) (fun _ => rfl) q i hi' j hj
    have hlt : i * 12 + j < q.length * 12 := by omega
    rw [← ht, List.getElem?_take, if_pos hlt] at h6
    show w.cell? ⟨g, i * 12 + j, none⟩ = _
    rw [Blk.cell (t := 67) (cs := cur) hg, ← h6]; simp
/-- The same as something known of a value. -/
def Sym.obj (B : Nat) (o : Ob) : Sym := ⟨fun w F v => ∃ u : Four, v = .agg (qO (o, u)).toArray ∧ ObE w B (o, u) ∧ ∀ x, (u.1.ownBlock = some x ∨ u.2.1.ownBlock = some x ∨ u.2.2.1.ownBlock = some x ∨ u.2.2.2.ownBlock = some x) → ∀ i, ¬ F (x, i), by
  rintro w w' F F' v ⟨u, e, h1, h2⟩ hk hF
  have hb : ∀ x, x < w.heap.size → (∀ i, ¬ F (x, i)) → w'.heap[x]? = w.heap[x]? := fun x hx hn => hk.whole x hx hn
  refine ⟨u, e, ⟨⟨own_whole h1.own.l fun g hg => hb g (own_lt h1.own.l hg) (h2 g (.inl hg)), own_whole h1.own.c fun g hg => hb g (own_lt h1.own.c hg) (h2 g (.inr (.inl hg))), own_whole h1.own.d fun g hg => hb g (own_lt h1.own.d hg) (h2 g (.inr (.inr (.inl hg)))), own_whole h1.own.m fun g hg => hb g (own_lt h1.own.m hg) (h2 g (.inr (.inr (.inr hg))))⟩, h1.l, h1.c⟩, fun x hx i hf => ?_⟩
  refine h2 x hx i (hF (x, i) ?_ hf)
  rcases hx with hx | hx | hx | hx
  · exact own_lt h1.own.l hx
  · exact own_lt h1.own.c hx
  · exact own_lt h1.own.d hx
  · exact own_lt h1.own.m hx⟩
/-- A slice of its own with such an object in it. -/
def Sym.objL (B : Nat) (o : Ob) : Sym := ⟨fun w F v => ∃ u g, v = .slice (some ⟨g, 0, none⟩) 1 1 ∧ Blk w g 67 (qO (o, u)).toArray ∧ (∀ i, ¬ F (g, i)) ∧ (Sym.obj B o).on w F (.agg (qO (o, u)).toArray) ∧ ObE w B (o, u), by
  rintro w w' F F' v ⟨u, g, e, h1, h2, h3, h4⟩ hk hF
  have h5 := (Sym.obj B o).mono h3 hk hF
  refine ⟨u, g, e, (hk.whole g h1.lt h2).trans h1, fun i hf => h2 i (hF (g, i) h1.lt hf), h5, ?_⟩
  obtain ⟨u2, e2, h6, _⟩ := h5
  have : qO (o, u) = qO (o, u2) := by
    injection e2 with e2
    have := congrArg Array.toList e2
    simpa using this
  have hu : u = u2 := by
    obtain ⟨a, b, c, d⟩ := u
    obtain ⟨a2, b2, c2, d2⟩ := u2
    simp only [List.cons.injEq, true_and, and_true] at this
    obtain ⟨rfl, rfl, rfl, rfl⟩ := this
    rfl
  subst hu
  exact h6⟩
set_option maxRecDepth 100000 in
theorem p_litO {U : Prop} {ops : Array Oper} {Q : Exit → Act → World → Prop} {N : Nat} {e : Env} {d : Nat} {t : TypeId} {p : String} {af : Array Edge} {g : Option (Nat × Bool)} {c : Bool} {x : Operand} {B : Nat} {o : Ob} (hr : BsRun Try.prog ⟨some d, .buildSlice 57 1 #[(0, x)], t, p, af, g⟩ x 12 67) (hg : GdE ops e g c) (hx : OpdE e c x (.obj B o)) : Pays U Try.prog ops Q N e ⟨some d, .buildSlice 57 1 #[(0, x)], t, p, af, g⟩ (c, .objL B o) :=
  pOf hg fun e a w F hF hk R hR => by
    obtain ⟨u, h1, h2, h3⟩ := hx a w F (fun s hs => hk s (by simp [Op.operands, hs])) e
    have hb : Below w.heap.size w (w.alloc (.cells (qO (o, u)).toArray 67)) := (Below.refl _ _).alloc (Nat.le_refl _) _
    have hB := Blk.new w 67 (qO (o, u)).toArray
    unfold Oper.wp
    rw [hr _ w _ h1 rfl]
    have h4 : (Sym.obj B o).on (w.alloc (.cells (qO (o, u)).toArray 67)) F (.agg (qO (o, u)).toArray) := (Sym.obj B o).mono (w := w) (F := F) ⟨u, rfl, h2, h3⟩ (.of hb) fun _ _ h => h
    exact hR _ _ hb ⟨u, w.heap.size, rfl, hB, fun i h => Nat.lt_irrefl _ (hF.lt _ h), h4, h2.below hb⟩
theorem okl_right {l : Lab} (h : rightB l = true) : OKL l 12 := by
  have h0 := h
  unfold rightB at h
  simp only [Bool.and_eq_true, decide_eq_true_eq] at h
  obtain ⟨h1, h2, h3, h4⟩ := h
  obtain ⟨g1, g2⟩ := rightP_good l.d h4
  exact ⟨⟨g1, fun p hp => (g2 p hp).1⟩, h3⟩
theorem labX_okl (bs : List Int) (s : Nat × Bool) : OKL (labX bs s).1 12 := by
  unfold labX
  split
  · exact ⟨(okl_of 0).good, by simp⟩
  · rename_i hc
    refine okl_right ?_
    cases hh : rightB ⟨(nx bs s 1).1, (rdP bs (nx bs (nx bs s 1).2 1).1.toNat (labS bs s) []).1⟩ with
    | false => exact absurd (.inr hh) hc
    | true => rfl
theorem bdR_okl (k : Int) (bs : List Int) (s : Nat × Bool) : OKL (bdR k bs s).1.1 12 := by
  have h0 : OKL ⟨0, []⟩ 12 := ⟨(okl_of 0).good, by simp⟩
  by_cases k1 : k = 1
  · rw [bd_1 k1]; exact h0
  by_cases k2 : k = 2
  · rw [bd_2 k2]; exact h0
  by_cases k4 : k = 4
  · rw [bd_4 k4]; exact h0
  by_cases k3 : k = 3 ∨ k = 5
  · rw [bd_3 k3]; exact labX_okl bs s
  by_cases k6 : k = 6
  · rw [bd_6 k6]; exact h0
  · rw [bd_0 k1 k2 k4 k3 k6]; exact h0
theorem obR_okl (bs : List Int) (s : Nat × Bool) : OKL (obR bs s).1.lab 12 ∧ OKL (obR bs s).1.clr 12 := by
  rw [ob_read]
  exact ⟨labX_okl _ _, bdR_okl _ _ _⟩
end Go.Proofs.Ytihddficgpjgpaa.Y
