/- MLx: Ylabr, Ylabw, Yseed, Ymath5, Ylabs, Ylabm, Ylabx, Yonly, Ylabn, Yback, one behind the other. -/
import Derived.Test.YtihddficgpjgpaaZMRd
import Derived.Test.YtihddficgpjgpaaZYcall
import Derived.Test.YtihddficgpjgpaaZYrules
import Derived.Test.YtihddficgpjgpaaZYright
import Derived.Test.YtihddficgpjgpaaZHead
import Derived.Test.YtihddficgpjgpaaZRow
namespace Go.Proofs.Ytihddficgpjgpaa.Y
open Go.RowKit Go.ChangeShapes Go.WideShapes Go.ChangeAt
/-- Values that are known outright stay so, whatever is written. -/
def ValsB (e : Env) : Env → Prop
  | [] => True
  | (s, k) :: t => (∃ x, k = (true, .val x) ∧ e.lookup s = some k) ∧ ValsB e t
theorem vv {e e2 : Env} (s : Nat) {x : Value} (h : e.lookup s = some (true, .val x)) (hr : ValsB e e2) : ValsB e ((s, true, .val x) :: e2) := ⟨⟨x, rfl, h⟩, hr⟩
theorem vn {e : Env} : ValsB e [] := True.intro
theorem StE.vals {U : Prop} {N : Nat} {e e2 : Env} {F F' : Cell → Prop} {a : Act} {w w' : World} (h : StE U N e F a w) (hF : FOK U F' w') (hv : ValsB e e2) : StE U N e2 F' a w' := by
  refine ⟨h.size, h.defers, hF, fun s k hk => ?_⟩
  induction e2 with
  | nil => cases hk
  | cons p t ih =>
    obtain ⟨s', k'⟩ := p
    rw [List.lookup_cons] at hk
    cases hs : s == s' with
    | false => rw [hs] at hk; exact ih hv.2 hk
    | true =>
      rw [hs] at hk
      simp at hk hs
      subst hs hk
      obtain ⟨x, rfl, hl⟩ := hv.1
      exact ⟨fun _ => h.get s hl, fun e => by cases e⟩
/-- Cells known outright. -/
def Lay.exact (cs : List Value) (h : ∀ u ∈ cs, u.oneCell' = true) : Lay Unit := ⟨cs.length, fun _ _ c _ => c = cs, by rintro _ _ _ _ rfl; rfl, by rintro _ _ _ _ rfl; exact h, fun h _ _ => h⟩
theorem grown_far {a w w' : World} {g : Nat} {r : Option Nat} (h : a.grownBy w (some g)) (hg : w.grownBy w' r) (hr : ∀ x, r = some x → a.heap.size ≤ x) : a.grownBy w' (some g) := ⟨hg.os.trans h.os, hg.tape.trans h.tape, hg.output.trans h.output, Nat.le_trans h.size hg.size, fun i hi hne => (hg.block i (Nat.lt_of_lt_of_le hi h.size) (fun e => by have := hr i e.symm; omega)).trans (h.block i hi hne)⟩
theorem fok_at {w : World} {g : Nat} (h : g < w.heap.size) : FOK False (AtB g) w := ⟨fun k hk => by unfold AtB at hk; rw [hk]; exact h, fun u => u.elim⟩
section
variable {U : Prop} {P : Program} {Q : Exit → Act → World → Prop} {N : Nat} {e : Env} {F : Cell → Prop} {a : Act} {w : World} {ops : Array Oper} {rest : List Oper} {o : Oper}
theorem alloc_on {d : Nat} {u : TypeId} {z : Array Value} (hu : ¬ U) (h : StE U N e F a w) (hd : o.dst = some d) (hdN : decide (d < N) = true) (hgd : o.guard = none) (hr : ∀ (ev : Operand → Value) (w : World), (execOp ev o).run P w = .ok (.value (.pointer (some ⟨w.heap.size, 0, none⟩))) (w.alloc (.cells z u)))
    (hQ : ∀ g a' w', Blk w' g u z → w.heap.size ≤ g → Below w.heap.size w w' → StE U N ((d, true, .val (.pointer (some ⟨g, 0, none⟩))) :: e) F a' w' → wpList P ops Q rest a' w') : wpList P ops Q (o :: rest) a w := by
  have hb : Below w.heap.size w (w.alloc (.cells z u)) := (Below.refl _ _).alloc (Nat.le_refl _) _
  have hB := Blk.new w u z
  refine wpList_plain hgd fun K hK => ?_
  unfold Oper.wp
  rw [hr]
  refine hK _ _ ?_
  rw [hd]
  exact hQ _ _ _ hB (Nat.le_refl _) hb ((h.freshV hb (Nat.le_refl _) hB.lt (fun u => absurd u hu) (by simpa using hdN)).less fun _ h => .inl h)
theorem store_on {gq : Nat} {T T' : TypeId} {z cs : Array Value} {e2 : Env} (t s : Nat) (h : StE U N e F a w) (h1 : o.op = .store T (.tmp t) (.tmp s)) (h2 : o.dst = none) (h3 : o.guard = none) (hx : a.tmps.getD s undef = .agg cs)
    (hg : e.lookup t = some (true, .val (.pointer (some ⟨gq, 0, none⟩)))) (hB : Blk w gq T' z) (hz : z.size = cs.size) (h4 : (P.info? T).map (·.size) = some cs.size) (h5 : cs.all (fun u => u.oneCell') = true) (hF : FOK U F w) (hu : ¬ U) (hv : ValsB e e2)
    (hQ : ∀ a' w', Blk w' gq T' cs → w.grownBy w' (some gq) → StE U N e2 F a' w' → wpList P ops Q rest a' w') : wpList P ops Q (o :: rest) a w := by
  refine wpList_store_rowTo h3 T (.tmp t) (.tmp s) h1 h2 gq cs (h.get t hg) hx T' z hB h4 hz h5 ?_
  refine hQ _ _ (setRow_heap w gq z cs T' (0, 0) hB) ⟨rfl, rfl, rfl, by rw [size_setRow]; exact Nat.le_refl _, fun k _ hk => setRow_other w gq k cs (fun e => hk (by rw [e]))⟩ (h.vals ⟨fun k hk => by rw [size_setRow]; exact hF.lt k hk, fun u => absurd u hu⟩ hv)
end
theorem then_ret {next : Act → World → Prop} {Q : Exit → Act → World → Prop} {a : Act} {w : World} (h : Q .ret a w) : Exit.then next Q .ret a w := h
theorem all_arr {l : List Value} (h : ∀ u ∈ l, u.oneCell' = true) : (l.toArray).all (fun u => u.oneCell') = true := by simpa using h
theorem with_st {P : Program} {U : Prop} {Q : Exit → Act → World → Prop} {N : Nat} {e : Env} {F : Cell → Prop} {a : Act} {w : World} {ops : Array Oper} {rest : List Oper} (h : StE U N e F a w) (k : StE U N e F a w → wpList P ops Q rest a w) : wpList P ops Q rest a w := k h
theorem rd_off {P : Program} {U : Prop} {Q : Exit → Act → World → Prop} {N : Nat} {e : Env} {F : Cell → Prop} {a : Act} {w : World} {ops : Array Oper} {rest : List Oper} {o : Oper} {d : Nat} (y : Sym) (h : StE U N e F a w) (hw : Region.wanted o (yielded ops a.tmps) = false) (hd : o.dst = some d) (hdN : decide (d < N) = true)
    (hQ : ∀ a', StE U N ((d, false, y) :: e) F a' w → wpList P ops Q rest a' w) : wpList P ops Q (o :: rest) a w := by
  refine wpList_off hw ?_
  rw [hd]
  exact hQ _ (h.put (Below.refl _ _) (by simpa using hdN) ⟨(fun e => by cases e), fun _ => rfl⟩)
section
variable {d : Nat} {t : TypeId} {p : String} {af : Array Edge} {g : Option (Nat × Bool)} {x x2 : Operand}
theorem cv_23_3 {a : Int} : Run1 Try.prog ⟨some d, .convert 23 3 x, t, p, af, g⟩ x (.int .u64 a) (.int .i64 (IntKind.i64.wrap a)) := fun ev w h1 => by go_simp
theorem cv_23_70 {a : Int} : Run1 Try.prog ⟨some d, .convert 23 70 x, t, p, af, g⟩ x (.int .u64 a) (.int .u32 (IntKind.u32.wrap a)) := fun ev w h1 => by go_simp
theorem bd39 {a : Int} : ∀ (ev : Operand → Value) (w : World), ev x = .int .i64 a → (execOp ev ⟨some d, .build 39 #[(0, x)], t, p, af, g⟩).run Try.prog w = .ok (.value (.agg #[.int .i64 a, .slice none 0 0])) w := fun ev w h1 => by go_simp
theorem bd90 {a b : Int} : ∀ (ev : Operand → Value) (w : World), ev x = .int .u32 a → ev x2 = .int .i64 b → (execOp ev ⟨some d, .build 90 #[(0, x), (1, x2)], t, p, af, g⟩).run Try.prog w = .ok (.value (.agg #[.int .u32 a, .int .i64 b])) w := fun ev w h1 h2 => by go_simp
theorem bz39 : DoneRun Try.prog ⟨some d, .build 39 #[], t, p, af, g⟩ (.agg #[.int .i64 0, .slice none 0 0]) := fun ev w h => by go_simp
theorem bs_37 : BsRun Try.prog ⟨some d, .buildSlice 37 1 #[(0, x)], t, p, af, g⟩ x 2 90 := fun ev w cs h1 h2 => by
  obtain ⟨cs⟩ := cs
  match cs, h2 with
  | [a, b], _ => go_simp
end
abbrev prE (p : Int × Int) : List Value := [.int .u32 p.1, .int .i64 p.2]
theorem prF : Flat pairL prE := fun w F cs x => Flat.pr (Flat.int .u32) (Flat.int .i64) w F cs x
section
variable {U : Prop} {ops : Array Oper} {Q : Exit → Act → World → Prop} {N d : Nat} {e : Env} {t : TypeId} {p : String} {af : Array Edge} {g : Option (Nat × Bool)} {c : Bool} {x x2 : Operand}
theorem p_bd39 {n : Int} (hg : GdE ops e g c) (hx : OpdE e c x (.int .i64 n)) : Pays U Try.prog ops Q N e ⟨some d, .build 39 #[(0, x)], t, p, af, g⟩ (c, .val (.agg #[.int .i64 n, .slice none 0 0])) :=
  pVal hg fun e a w F hk => ⟨_, bd39 _ w (hx a w F (fun s hs => hk s (by simp [Op.operands, hs])) e), rfl⟩
theorem p_bd90 {n m : Int} (hg : GdE ops e g c) (hx : OpdE e c x (.int .u32 n)) (hx2 : OpdE e c x2 (.int .i64 m)) : Pays U Try.prog ops Q N e ⟨some d, .build 90 #[(0, x), (1, x2)], t, p, af, g⟩ (c, .st pairL (n, m)) :=
  pVal hg fun e a w F hk => ⟨_, bd90 _ w (hx a w F (fun s hs => hk s (by simp [Op.operands, hs])) e) (hx2 a w F (fun s hs => hk s (by simp [Op.operands, hs])) e), prE (n, m), rfl, (prF _ _ _ _).2 rfl⟩
end
/-- What a reader that stands somewhere gives next, and where it stands then. -/
def nx (bs : List Int) (s : Nat × Bool) (n : Nat) : Int × (Nat × Bool) := if s.2 = false ∧ s.1 + n ≤ bs.length then (Pk.numL ((bs.drop s.1).take n), (s.1 + n, false)) else (0, (s.1, true))
def rdP (bs : List Int) : Nat → Nat × Bool → List (Int × Int) → List (Int × Int) × (Nat × Bool)
  | 0, s, acc => (acc, s)
  | m + 1, s, acc => if s.2 = true then (acc, s) else rdP bs m (nx bs (nx bs s 4).2 1).2 (acc ++ [((nx bs s 4).1, (nx bs (nx bs s 4).2 1).1)])
def labS (bs : List Int) (s : Nat × Bool) : Nat × Bool := if 12 < (nx bs (nx bs s 1).2 1).1 then ((nx bs (nx bs s 1).2 1).2.1, true) else (nx bs (nx bs s 1).2 1).2
def labX (bs : List Int) (s : Nat × Bool) : Lab × (Nat × Bool) :=
  if (rdP bs (nx bs (nx bs s 1).2 1).1.toNat (labS bs s) []).2.2 = true ∨ rightB ⟨(nx bs s 1).1, (rdP bs (nx bs (nx bs s 1).2 1).1.toNat (labS bs s) []).1⟩ = false then (⟨0, []⟩, ((rdP bs (nx bs (nx bs s 1).2 1).1.toNat (labS bs s) []).2.1, true))
  else (⟨(nx bs s 1).1, (rdP bs (nx bs (nx bs s 1).2 1).1.toNat (labS bs s) []).1⟩, (rdP bs (nx bs (nx bs s 1).2 1).1.toNat (labS bs s) []).2)
theorem cNumS {w : World} {g : Nat} {bs : List Int} {s : Nat × Bool} (h : Pk.RdAt w g bs s.1 s.2) (hB : Pk.Byt bs) (hm : bs.length ≤ 1000000) {n : Nat} (h1 : 1 ≤ n) (h8 : n ≤ 8) : Calls Try.prog 32 #[.pointer (some ⟨g, 0, none⟩), .int .i64 n] w fun e w' => e = .returned (.int .u64 (nx bs s n).1) ∧ Pk.RdAt w' g bs (nx bs s n).2.1 (nx bs s n).2.2 ∧ w.grownBy w' (some g) := by
  obtain ⟨k, b⟩ := s
  unfold nx
  by_cases hc : b = false ∧ k + n ≤ bs.length
  · rw [if_pos hc]
    obtain ⟨rfl, hc⟩ := hc
    exact cNum h hB hm hc h1 h8
  · rw [if_neg hc]
    have hl := h.at_le
    refine cNumF h hm (n := (n : Int)) (by omega) (by omega) ?_
    simp only at hc hl ⊢
    cases b with
    | true => exact .inl rfl
    | false => right; simp at hc; omega
theorem nx_bd {bs : List Int} (hB : Pk.Byt bs) (s : Nat × Bool) (n : Nat) : 0 ≤ (nx bs s n).1 ∧ (nx bs s n).1 < 256 ^ n := by
  unfold nx
  split
  · rename_i h
    exact Pk.numL_bd n _ (by simp; omega) (byt_take (byt_drop hB _) _)
  · exact ⟨Int.le_refl _, Int.pow_pos (by omega)⟩
theorem nx1 {bs : List Int} (hB : Pk.Byt bs) (s : Nat × Bool) : 0 ≤ (nx bs s 1).1 ∧ (nx bs s 1).1 < 256 := nx_bd hB s 1
theorem nx4 {bs : List Int} (hB : Pk.Byt bs) (s : Nat × Bool) : 0 ≤ (nx bs s 4).1 ∧ (nx bs s 4).1 < 4294967296 := nx_bd hB s 4
/-- What is known at a round's beginning. -/
abbrev LXE (g g2 g3 n i : Nat) : Env := [(5, true, .int .i64 (i : Int)), (0, true, .val (.pointer (some ⟨g, 0, none⟩))), (2, true, .val (.pointer (some ⟨g2, 0, none⟩))), (3, true, .val (.pointer (some ⟨g3, 0, none⟩))), (4, true, .int .i64 (n : Int))]
structure LXK (w : World) (g g2 g3 n : Nat) (d : Int) (bs : List Int) (s0 : Nat × Bool) (i : Nat) (v : Value) (ps : List (Int × Int)) (s : Nat × Bool) (wr : World) : Prop where
  rd : Pk.RdAt wr g bs s.1 s.2
  k2 : Blk wr g2 39 #[.int .i64 0, .slice none 0 0]
  k3 : Blk wr g3 39 #[.int .i64 d, v]
  own : wr.ownsRow w.heap.size 90 2 v ps.length (ps.flatMap prE)
  eq : rdP bs (n - i) s ps = rdP bs n s0 []
  len : ps.length = i
  le : i ≤ n
  z : w.grownBy wr (some g)
def LXI (w : World) (g g2 g3 n : Nat) (d : Int) (bs : List Int) (s0 : Nat × Bool) (i : Nat) (a : Act) (wr : World) : Prop := ∃ v ps s, LXK w g g2 g3 n d bs s0 i v ps s wr ∧ StE False 52 (LXE g g2 g3 n i) (AtB g) a wr
theorem own_notAt {w : World} {B g n : Nat} {E : TypeId} {k : Nat} {v : Value} {xs : List Value} (h : w.ownsRow B E k v n xs) (hg : g < B) : ∀ x o, v.ownBlock = some x → ¬ AtB g (x, o) := fun x o hx hf => by
  have := own_base h hx
  unfold AtB at hf
  simp only at hf
  omega
theorem own_grown {w w' : World} {B E k n g : Nat} {v : Value} {xs : List Value} (h : w.ownsRow B E k v n xs) (hg : w.grownBy w' (some g)) (hlt : g < B) : w'.ownsRow B E k v n xs := h.kept hg (by
  cases hb : v.ownBlock with
  | none => exact .inl rfl
  | some x => exact .inr fun e => by injection e with e; have := own_base h hb; omega)
section
variable {U : Prop} {P : Program} {Q : Exit → Act → World → Prop} {N : Nat} {e e2 : Env} {F : Cell → Prop} {a : Act} {w : World} {ops : Array Oper} {rest : List Oper} {o : Oper}
theorem call_wp {R : Act → World → Prop} (f : FuncId) (A : List Operand) (hg : o.guard = none) (hr : CallRun P o A f) (hc : Calls P f (A.map a.eval).toArray w (fun e w' => ∃ v, e = .returned v ∧ R (a.put o.dst v) w')) : if Region.wanted o (yielded ops a.tmps) then o.wp P a w R Q else R (a.put o.dst undef) w := by
  rw [if_pos (by simp [Region.wanted, hg])]
  unfold Oper.wp
  rw [hr, Oper.upon_enter]
  exact hc.mono (by rintro _ w' ⟨v, rfl, h⟩; exact h)
theorem app_on {d B E T n size bytes : Nat} {v : Value} {xs cs : List Value} {y : Sym} {i : TypeInfo} {z : Value} (sa sb : Nat) (hu : ¬ U) (h : StE U N e F a w) (ho : o.op = .call { callee := .builtin .append, args := #[.tmp sa, .tmp sb], argTypes := #[T, T] }) (hd : o.dst = some d) (hdN : decide (d < N) = true) (hgd : o.guard = none)
    (ht : P.underlying T = some (.slice E)) (hi : P.info? E = some i) (hz : i.zero = some z) (hsize : i.size = size) (hby : i.bytes = bytes) (hzs : z.cells.size = size) (hsz : 0 < size)
    (hown : w.ownsRow B E size v n xs) (hsa : a.tmps.getD sa undef = v) (hsb : e.lookup sb = some (true, .both (.lit E cs) y)) (hl : cs.length = 1 * size) (h1 : ∀ u ∈ cs, u.oneCell' = true) (h63 : n + 1 ≤ maxLen) (hbytes : (n + 1) * bytes ≤ 140737488355328) (hB : B ≤ w.heap.size) (hv : ValsB e e2)
    (hQ : ∀ v' a' w', w'.ownsRow B E size v' (n + 1) (xs ++ cs) → w.grownBy w' v.ownBlock → StE U N ((d, true, .val v') :: e2) F a' w' → wpList P ops Q rest a' w') : wpList P ops Q (o :: rest) a w := by
  have ea : a.eval (.tmp sa) = v := hsa
  obtain ⟨gl, el, hBl, _⟩ := (h.get sb hsb).1
  have hx : a.eval (.tmp sb) = .slice (some ⟨gl, 0, none⟩) 1 1 := el
  have hnews : ∀ j u, cs[j]? = some u → w.cell? ((⟨gl, 0, none⟩ : Addr).add j) = some u := fun j u hj => by
    rw [add_none, hBl.cell, ← hj]; simp
  refine wpList_plain hgd fun K hK => ?_
  obtain ⟨v', w', hr, h2, h3, _, _⟩ := run_append_own_at (P := P) w B T o.type E i z size bytes ht hi hz hsize hby hzs hsz v n _ hown ⟨gl, 0, none⟩ 1 1 _ hl hnews h1 h63 hbytes hB
  have hdN' : d < N := by simpa using hdN
  have hs := h.vals (F' := F) (w' := w') ⟨fun k hk => Nat.lt_of_lt_of_le (h.fok.lt k hk) h3.size, fun u => absurd u hu⟩ hv
  unfold Oper.wp execOp
  simp only [ho, resolve, invoke, builtin, Sem.run_bind, Sem.run_pure, Result.andThen_ok, List.map_toArray, List.map_cons, List.map_nil, ea, hx, hr]
  refine hK _ _ ?_
  rw [hd]
  exact hQ v' _ w' h2 h3 (hs.put (Below.refl _ _) hdN' ⟨fun _ => rfl, fun e => by cases e⟩)
/-- One cell of a block of one's own is stored. -/
theorem cell_on {gq k : Nat} {T T' : TypeId} {z : Array Value} {v : Value} (t s : Nat) (hu : ¬ U) (h : StE U N e F a w) (h1 : o.op = .store T (.tmp t) (.tmp s)) (h2 : o.dst = none) (h3 : o.guard = none) (hx : e.lookup s = some (true, .val v)) (hg : e.lookup t = some (true, .val (.pointer (some ⟨gq, k, none⟩)))) (hB : Blk w gq T' z) (hk : k < z.size) (hvc : v.cells = #[v]) (hi : (P.info? T).map (·.size) = some 1) (hone : v.oneCell' = true) (hv : ValsB e e2)
    (hQ : ∀ a' w', Blk w' gq T' (z.setIfInBounds k v) → w' = w.setCells gq k [v] → StE U N e2 F a' w' → wpList P ops Q rest a' w') : wpList P ops Q (o :: rest) a w := by
  refine wpList_store_cell h3 T (.tmp t) (.tmp s) h1 gq k v (h.get t hg) (h.get s hx) hvc (by rw [hB.cell]; simp [hk]) (hB.frozen k) hi hone ?_
  rw [h2]
  have G : w.grownBy (w.setCells gq k [v]) (some gq) := only_setCells [v] k (only_refl w (some gq))
  exact hQ _ _ (hB.set_ k v) rfl (h.vals ⟨fun k hk => Nat.lt_of_lt_of_le (h.fok.lt k hk) G.size, fun u => absurd u hu⟩ hv)
theorem p_faV0 {d : Nat} {t : TypeId} {p : String} {af : Array Edge} {gd : Option (Nat × Bool)} {c : Bool} {x : Operand} {u : TypeId} {i n b off : Nat} (hr : FieldRun P ⟨some d, .fieldAddr u x i, t, p, af, gd⟩ x n) (hg : GdE ops e gd c) (hx : OpdE e c x (.val (.pointer (some ⟨b, off, none⟩)))) : Pays U P ops Q N e ⟨some d, .fieldAddr u x i, t, p, af, gd⟩ (c, .val (.pointer (some ⟨b, off + n, none⟩))) :=
  pVal hg fun e a w F hk => ⟨_, hr _ w b off (hx a w F (fun s hs => hk s (by simp [Op.operands, hs])) e), rfl⟩
end
theorem slice_one {w : World} {B E k n : Nat} {v : Value} {xs : List Value} (h : w.ownsRow B E k v n xs) : v.oneCell' = true ∧ v.cells = #[v] := by
  obtain ⟨A, c, rfl⟩ := own_slice h
  exact ⟨rfl, rfl⟩
theorem ex_ok {w : World} {B E k n : Nat} {v : Value} {xs : List Value} (d : Int) (h : w.ownsRow B E k v n xs) : ∀ u ∈ [Value.int .i64 d, v], u.oneCell' = true := fun u hu => by
  rcases List.mem_cons.1 hu with rfl | hu
  · rfl
  · rw [List.mem_singleton.1 hu]; exact (slice_one h).1
theorem ex_part {a v : Value} (h : ∀ u ∈ [a, v], u.oneCell' = true) : Part (Lay.exact [a, v] h) (Lay.exact [v] (fun u hu => h u (List.mem_cons_of_mem _ hu))) 1 (fun _ => ()) := by
  rintro w F cs x rfl
  exact ⟨[a], [v], [], rfl, rfl, rfl⟩
theorem raw_of_own {w : World} {B g : Nat} {v : Value} {d : Int} {ps : List (Int × Int)} (h : w.ownsRow B 90 2 v ps.length (ps.flatMap prE)) (hg : g < B) : rawL.on w (AtB g) [.int .i64 d, v] ⟨d, ps⟩ := by
  obtain ⟨A, c, e1, e2, e3⟩ := sl_of_own prF h (F := AtB g) fun x o hx _ => own_notAt h hg x o hx
  simp only [List.cons.injEq, and_true] at e1
  exact ⟨[.int .i64 d], [v], rfl, rfl, A, c, by rw [e1], e2, e3⟩
theorem rdP_go {bs : List Int} {m : Nat} {s : Nat × Bool} {acc : List (Int × Int)} (h : s.2 = false) : rdP bs (m + 1) s acc = rdP bs m (nx bs (nx bs s 4).2 1).2 (acc ++ [((nx bs s 4).1, (nx bs (nx bs s 4).2 1).1)]) := by rw [rdP, if_neg (by rw [h]; simp)]
theorem rdP_bad {bs : List Int} {m : Nat} {s : Nat × Bool} {acc : List (Int × Int)} (h : s.2 = true) : rdP bs m s acc = (acc, s) := by
  cases m with
  | zero => rfl
  | succ m => rw [rdP, if_pos h]
end Go.Proofs.Ytihddficgpjgpaa.Y
namespace Go.Proofs.Ytihddficgpjgpaa.Y
open Go.RowKit Go.ChangeShapes Go.WideShapes Go.ChangeAt
theorem Try.info90 : (Try.prog.info? 90).map (fun i => (i.zero, i.size, i.bytes)) = some (some (.agg #[.int .u32 0, .int .i64 0]), 2, 16) := by kernel_rfl
theorem own_grown3 {w w' : World} {B E k n g : Nat} {v : Value} {xs : List Value} (h : w.ownsRow B E k v n xs) (hg : w.grownBy w' (some g)) (hne : some g ≠ v.ownBlock) : w'.ownsRow B E k v n xs := h.kept hg (.inr fun e => hne e.symm)
set_option maxRecDepth 100000 in
set_option maxHeartbeats 1600000 in
/-- A reader's next label. -/
theorem cLab {w : World} {g : Nat} {bs : List Int} {k : Nat} {b : Bool} (rd : Pk.RdAt w g bs k b) (hB : Pk.Byt bs) (hm : bs.length ≤ 1000000) : Calls Try.prog 40 #[.pointer (some ⟨g, 0, none⟩)] w fun e w' => ∃ v, e = .returned (.agg #[.int .i64 (labX bs (k, b)).1.d, v]) ∧ w'.ownsRow w.heap.size 90 2 v (labX bs (k, b)).1.ps.length ((labX bs (k, b)).1.ps.flatMap prE) ∧ Pk.RdAt w' g bs (labX bs (k, b)).2.1 (labX bs (k, b)).2.2 ∧ w.grownBy w' (some g) := by
  have hg := rd.lt
  obtain ⟨i0, hi0, hz0, hz1, hz2⟩ := info_parts Try.info90
  go_enter Try.func40, Try.ntmps40
  refine wp_seq ?_
  refine wp_region_lit ?_
  show wpList _ _ _ (_ :: _) _ _
  refine with_st (st0 (U := False) (N := 52) (e := [(0, true, .val (.pointer (some ⟨g, 0, none⟩)))]) (F := AtB g) rfl rfl (fok_at hg) ⟨⟨rfl, rfl⟩, True.intro⟩) fun s0 => ?_
  refine alloc_on (u := 39) (z := #[.int .i64 0, .slice none 0 0]) id s0 rfl (by decide) rfl (fun ev w => al_39 ev w) fun g2 a1 w1 k2 hg20 b1 s1 => ?_
  have hg2 := Nat.le_trans (Nat.le_refl _) hg20
  have z1 := only_of_below b1 (some g)
  have rd := rd.below b1
  refine wpList_done ?_
  refine wp_seq ?_
  refine wp_region_lit ?_
  refine chainK 1 (cc rfl (p_move g0 (od rfl id)) cn) (by kernel_rfl) (s1.keep (sc 0 rfl (sc 2 rfl sn))) fun a2 w2 b2 s2 => ?_
  have z2 := only_trans z1 (only_of_below b2 (some g))
  have rd := rd.below b2
  have k2 := k2.below b2 k2.lt
  show wpList _ _ _ (_ :: _) _ _
  have q7 : a2.tmps.getD 7 undef = .pointer (some ⟨g, 0, none⟩) := s2.get 7 rfl
  refine rd_on [.tmp 7, .const (.int .i64 1)] s2 (fun _ => rfl) (by simp [Region.wanted]) (fun _ _ => by kernel_rfl) rfl (by decide) (show Calls Try.prog 32 #[a2.tmps.getD 7 undef, .int .i64 1] w2 _ from by rw [q7]; exact cNumS (s := (k, b)) rd hB hm (n := 1) (by decide) (by decide)) fun a3 w3 rd g3 s3 => ?_
  have k2 := k2.grown g3 (by simp; omega)
  have z3 := only_trans z2 g3
  refine chainK 2 (cc rfl (p_cvE (n' := (nx bs (k, b) 1).1) (by have := nx1 hB (k, b); rw [IntKind.wrap_i64]; omega) g0 (od rfl id) cv_23_3)
      (cc rfl (p_bd39 g0 (od rfl id)) cn)) (by kernel_rfl) s3 fun a4 w4 b4 s4 => ?_
  have z4 := only_trans z3 (only_of_below b4 (some g))
  have rd := rd.below b4
  have k2 := k2.below b4 k2.lt
  show wpList _ _ _ (_ :: _) _ _
  refine alloc_on (u := 39) (z := #[.int .i64 0, .slice none 0 0]) id s4 rfl (by decide) rfl (fun ev w => al_39 ev w) fun g3 a5 w5 k3 hg30 b5 s5 => ?_
  have hg2g3 : g2 < g3 := Nat.lt_of_lt_of_le k2.lt hg30
  have hg3 := Nat.le_trans z4.size hg30
  have z5 := only_trans z4 (only_of_below b5 (some g))
  have rd := rd.below b5
  have k2 := k2.below b5 k2.lt
  show wpList _ _ _ (_ :: _) _ _
  refine store_on (cs := #[.int .i64 (nx bs (k, b) 1).1, .slice none 0 0]) 3 10 s5 rfl rfl rfl (s5.get 10 rfl) rfl k3 rfl sz_39 (by simp [Value.oneCell']) s5.fok id (vv 0 rfl (vv 2 rfl (vv 3 rfl vn))) fun a6 w6 k3 g6 s6 => ?_
  have rd := rd_grownO rd g6 (fun x e => by cases e; omega)
  have k2 := k2.grown g6 (by simp; omega)
  have z6 := grown_far z5 g6 (fun x e => by cases e; exact hg3)
  refine wpList_done ?_
  refine wp_seq ?_
  refine wp_region_lit ?_
  refine chainK 1 (cc rfl (p_move g0 (od rfl id)) cn) (by kernel_rfl) (s6.keep (sc 0 rfl (sc 2 rfl (sc 3 rfl sn)))) fun a7 w7 b7 s7 => ?_
  have z7 := only_trans z6 (only_of_below b7 (some g))
  have rd := rd.below b7
  have k2 := k2.below b7 k2.lt
  have k3 := k3.below b7 k3.lt
  show wpList _ _ _ (_ :: _) _ _
  have q11 : a7.tmps.getD 11 undef = .pointer (some ⟨g, 0, none⟩) := s7.get 11 rfl
  refine rd_on [.tmp 11, .const (.int .i64 1)] s7 (fun _ => rfl) (by simp [Region.wanted]) (fun _ _ => by kernel_rfl) rfl (by decide) (show Calls Try.prog 32 #[a7.tmps.getD 11 undef, .int .i64 1] w7 _ from by rw [q11]; exact cNumS (s := (nx bs (k, b) 1).2) rd hB hm (n := 1) (by decide) (by decide)) fun a8 w8 rd g8 s8 => ?_
  have k2 := k2.grown g8 (by simp; omega)
  have k3 := k3.grown g8 (by simp; omega)
  have z8 := only_trans z7 g8
  refine chainT (t := []) (cc rfl (p_cvE (n' := (nx bs (nx bs (k, b) 1).2 1).1) (by have := nx1 hB (nx bs (k, b) 1).2; rw [IntKind.wrap_i64]; omega) g0 (od rfl id) cv_23_3)
      (cc rfl (p_assign g0 (od rfl id)) cn)) (by kernel_rfl) s8 fun a9 w9 b9 s9 => wpList_done ?_
  have z9 := only_trans z8 (only_of_below b9 (some g))
  have rd := rd.below b9
  have k2 := k2.below b9 k2.lt
  have k3 := k3.below b9 k3.lt
  have hn0 := nx1 hB (nx bs (k, b) 1).2
  obtain ⟨n, hn⟩ : ∃ n : Nat, (nx bs (nx bs (k, b) 1).2 1).1 = (n : Int) := ⟨(nx bs (nx bs (k, b) 1).2 1).1.toNat, by omega⟩
  have s9 := s9.more 4 (y := .int .i64 (n : Int)) (int_as (s9.get 4 rfl) hn)
  refine wp_seq ?_
  refine wp_seq ?_
  refine flowC mixed (s9.keep (sc 0 rfl (sc 2 rfl (sc 3 rfl (sc 4 rfl sn))))) (by kernel_rfl) (by kernel_rfl) (cc rfl (p_move g0 (od rfl id))
      (cc rfl (p_bin g0 (od rfl id) (oc _) b_gtr_3) cn)) fun a10 w10 b10 s10 => ?_
  have z10 := only_trans z9 (only_of_below b10 (some g))
  have rd := rd.below b10
  have k2 := k2.below b10 k2.lt
  have k3 := k3.below b10 k3.lt
  refine s10.cond 15 rfl (fun h15 => ?_) (fun h15 => ?_)
  · -- true
    refine wp_region_lit ?_
    refine chainK 1 (cc rfl (p_move g0 (od rfl id)) cn) (by kernel_rfl) (s10.keep (sc 0 rfl (sc 2 rfl (sc 3 rfl (sc 4 rfl sn))))) fun a11 w11 b11 s11 => ?_
    have z11 := only_trans z10 (only_of_below b11 (some g))
    have rd := rd.below b11
    have k2 := k2.below b11 k2.lt
    have k3 := k3.below b11 k3.lt
    show wpList _ _ _ (_ :: _) _ _
    have q16 : a11.tmps.getD 16 undef = .pointer (some ⟨g, 0, none⟩) := s11.get 16 rfl
    refine rd_on [.tmp 16] s11 (fun _ => rfl) (by simp [Region.wanted]) (fun _ _ => by kernel_rfl) rfl (by decide) (show Calls Try.prog 39 #[a11.tmps.getD 16 undef] w11 _ from by rw [q16]; exact cFail rd) fun a12 w12 rd g12 s12 => ?_
    have k2 := k2.grown g12 (by simp; omega)
    have k3 := k3.grown g12 (by simp; omega)
    have z12 := only_trans z11 g12
    refine wpList_done ?_
    have rd : Pk.RdAt w12 g bs (labS bs (k, b)).1 (labS bs (k, b)).2 := by unfold labS; rw [if_pos (by rw [hn]; exact of_decide_eq_true h15)]; exact rd
    refine wp_seq ?_
    refine wp_seq ?_
    refine flowC mixed (s12.keep (sc 0 rfl (sc 2 rfl (sc 3 rfl (sc 4 rfl sn))))) (by kernel_rfl) (by kernel_rfl) (cc rfl (p_assign g0 (oc _)) cn) fun a13 w13 b13 s13 => ?_
    have z13 := only_trans z12 (only_of_below b13 (some g))
    have rd := rd.below b13
    have k2 := k2.below b13 k2.lt
    have k3 := k3.below b13 k3.lt
    refine wp_block ?_
    refine wp_count n 5 (LXI w g g2 g3 n (nx bs (k, b) 1).1 bs (labS bs (k, b))) (fun _ _ _ ⟨_, _, _, _, hs⟩ => hs.get 5 rfl) ⟨_, [], _, ⟨rd, k2, k3, World.ownsRow_nil _ _ _ _, rfl, rfl, Nat.zero_le _, z13⟩, s13.to _ ⟨rfl, rfl, rfl, rfl, rfl, True.intro⟩⟩ fun i a14 w14 hi14 hI => ?_
    obtain ⟨v, ps, s, ⟨rd, k2, k3, ow, heq, hlen, hle, z14⟩, s14⟩ := hI
    refine wp_seq ?_
    refine wp_seq ?_
    by_cases hin : i < n
    · -- in
      refine wp_region_lit ?_
      refine chainK 4 (cc rfl (p_move g0 (od rfl id))
          (cc rfl (p_move g0 (od rfl id))
          (cc rfl (p_bin g0 (od rfl id) (od rfl id) b_lss_3)
          (cc rfl (p_move g0 (od rfl id)) cn)))) (by kernel_rfl) (s14.keep (sc 0 rfl (sc 2 rfl (sc 3 rfl (sc 4 rfl (sc 5 rfl sn)))))) fun a15 w15 b15 s15 => ?_
      have z15 := only_trans z14 (only_of_below b15 (some g))
      have rd := rd.below b15
      have k2 := k2.below b15 k2.lt
      have k3 := k3.below b15 k3.lt
      have ow := own_below ow b15
      have s15 := s15.more 21 (y := .bool true) (bool_as (s15.get 21 rfl) (by simp [hin]))
      refine chainK 1 (cc rfl (p_move (g1 rfl rfl) (od rfl (fun _ => rfl))) cn) (by kernel_rfl) s15 fun a16 w16 b16 s16 => ?_
      have z16 := only_trans z15 (only_of_below b16 (some g))
      have rd := rd.below b16
      have k2 := k2.below b16 k2.lt
      have k3 := k3.below b16 k3.lt
      have ow := own_below ow b16
      show wpList _ _ _ (_ :: _) _ _
      have q22 : a16.tmps.getD 22 undef = .pointer (some ⟨g, 0, none⟩) := s16.get 22 rfl
      refine rd_on [.tmp 22] s16 (fun _ => rfl) (Eq.trans (s16.wanted (g1 rfl rfl) rfl) rfl) (fun _ _ => by kernel_rfl) rfl (by decide) (show Calls Try.prog 33 #[a16.tmps.getD 22 undef] w16 _ from by rw [q22]; exact cBad rd) fun a17 w17 rd g17 s17 => ?_
      have k2 := k2.grown g17 (by simp; omega)
      have k3 := k3.grown g17 (by simp; omega)
      have ow := own_grown ow g17 hg
      have z17 := only_trans z16 g17
      refine chainT (t := []) (cc rfl (p_not (g1 rfl rfl) (od rfl (fun _ => rfl)))
          (cc rfl (p_and g0 (od rfl id) (od rfl id)) cn)) (by kernel_rfl) s17 fun a18 w18 b18 s18 => wpList_done ?_
      have z18 := only_trans z17 (only_of_below b18 (some g))
      have rd := rd.below b18
      have k2 := k2.below b18 k2.lt
      have k3 := k3.below b18 k3.lt
      have ow := own_below ow b18
      refine s18.cond 25 rfl (fun h25 => ?_) (fun h25 => ?_)
      · -- true
        have hbad : s.2 = false := by simpa using h25
        have hgo := heq
        rw [show n - i = (n - (i + 1)) + 1 by omega, rdP_go hbad] at hgo
        refine wp_skip ?_
        refine wp_seq ?_
        refine wp_block ?_
        refine wp_seq ?_
        refine wp_region_lit ?_
        refine chainK 1 (cc rfl (p_move g0 (od rfl id)) cn) (by kernel_rfl) (s18.keep (sc 0 rfl (sc 2 rfl (sc 3 rfl (sc 4 rfl (sc 5 rfl (sc 18 rfl (sc 19 rfl (sc 20 rfl (sc 21 rfl (sc 22 rfl (sc 23 rfl (sc 24 rfl (sc 25 rfl sn)))))))))))))) fun a19 w19 b19 s19 => ?_
        have z19 := only_trans z18 (only_of_below b19 (some g))
        have rd := rd.below b19
        have k2 := k2.below b19 k2.lt
        have k3 := k3.below b19 k3.lt
        have ow := own_below ow b19
        show wpList _ _ _ (_ :: _) _ _
        have q28 : a19.tmps.getD 28 undef = .pointer (some ⟨g, 0, none⟩) := s19.get 28 rfl
        refine rd_on [.tmp 28, .const (.int .i64 4)] s19 (fun _ => rfl) (by simp [Region.wanted]) (fun _ _ => by kernel_rfl) rfl (by decide) (show Calls Try.prog 32 #[a19.tmps.getD 28 undef, .int .i64 4] w19 _ from by rw [q28]; exact cNumS (s := s) rd hB hm (n := 4) (by decide) (by decide)) fun a20 w20 rd g20 s20 => ?_
        have k2 := k2.grown g20 (by simp; omega)
        have k3 := k3.grown g20 (by simp; omega)
        have ow := own_grown ow g20 hg
        have z20 := only_trans z19 g20
        refine chainT (t := []) (cc rfl (p_cvE (n' := (nx bs s 4).1) (by have := nx4 hB s; rw [IntKind.wrap_u32]; omega) g0 (od rfl id) cv_23_70)
            (cc rfl (p_assign g0 (od rfl id)) cn)) (by kernel_rfl) s20 fun a21 w21 b21 s21 => wpList_done ?_
        have z21 := only_trans z20 (only_of_below b21 (some g))
        have rd := rd.below b21
        have k2 := k2.below b21 k2.lt
        have k3 := k3.below b21 k3.lt
        have ow := own_below ow b21
        have hx := ex_ok (nx bs (k, b) 1).1 ow
        have e3 := s21.get 3 rfl
        have s21 := s21.more 3 (y := .both (.val (.pointer (some ⟨g3, 0, none⟩))) (.at (Lay.exact [.int .i64 (nx bs (k, b) 1).1, v] hx) ())) ⟨e3, by rw [show _ = _ from e3]; exact at_of_blk k3 rfl (fun o hf => by unfold AtB at hf; simp only at hf; omega)⟩
        refine flowE 8 4 g 35 (.int .u64 (nx bs (nx bs s 4).2 1).1) (fun wr => Pk.RdAt wr g bs (nx bs s 4).2.1 (nx bs s 4).2.2) (fun wr => Pk.RdAt wr g bs (nx bs (nx bs s 4).2 1).2.1 (nx bs (nx bs s 4).2 1).2.2) mixed (s21.keep (sc 0 rfl (sc 2 rfl (sc 3 rfl (sc 4 rfl (sc 5 rfl (sc 6 rfl sn))))))) (fun _ => rfl) rd (fun h hb => h.below hb) (fun h hb => h.below hb) (by kernel_rfl) (by decide) (cc rfl (p_fieldAddr (ex_part hx) fa_39_1 g0 (od2 rfl id))
            (cc rfl (p_load1 rfl ld_37 g0 (od rfl id))
            (cc rfl (p_move g0 (od rfl id))
            (cc rfl (p_move g0 (od rfl id)) cn)))) (by kernel_rfl) (cc rfl (p_cvE (n' := (nx bs (nx bs s 4).2 1).1) (by have := nx1 hB (nx bs s 4).2; rw [IntKind.wrap_i64]; omega) g0 (od rfl id) cv_23_3)
            (cc rfl (p_bd90 g0 (od rfl id) (od rfl id))
            (cc rfl (p_lit prF bs_37 g0 (od rfl id)) cn))) (by kernel_rfl) (by kernel_rfl) (fun ac wc o ho hsz hf hknow hrd R hR => ?_) rfl fun a22 w22 g22 rd s22 => ?_
        · obtain rfl := Option.some.inj ho
          have q34 : ac.tmps.getD 34 undef = .pointer (some ⟨g, 0, none⟩) := (hknow 34 (List.contains_iff_mem.1 (by kernel_rfl)) _ rfl).1 rfl
          refine call_wp 32 [.tmp 34, .const (.int .i64 1)] rfl (fun _ _ => by kernel_rfl) ?_
          refine (show Calls Try.prog 32 #[ac.tmps.getD 34 undef, .int .i64 1] wc _ from by rw [q34]; exact cNumS (s := (nx bs s 4).2) hrd hB hm (n := 1) (by decide) (by decide)).mono ?_
          rintro _ w' ⟨rfl, h1, h2⟩
          exact ⟨_, rfl, hR _ w' h2 (fun _ => rd_blk h1) h1 rfl⟩
        have k2 := k2.grown g22 (by simp; omega)
        have k3 := k3.grown g22 (by simp; omega)
        have ow := own_grown ow g22 hg
        have z22 := only_trans z21 g22
        show wpList _ _ _ (_ :: _) _ _
        have q32 : a22.tmps.getD 32 undef = v := by have q := s22.get 32 (y := .one (Lay.exact [v] _) ()) rfl; exact List.singleton_inj.1 q
        have e3 := (s22.get 3 rfl).1
        have s22 := s22.more 3 (y := .val (.pointer (some ⟨g3, 0, none⟩))) e3
        refine app_on (e2 := LXE g g2 g3 n i) 32 38 id s22 rfl rfl (by decide) rfl Try.underlying37 hi0 hz0 hz1 hz2 rfl (by decide) ow q32 rfl rfl (prF.one _) (by unfold maxLen; omega) (by omega) z22.size (vv 5 rfl (vv 0 rfl (vv 2 rfl (vv 3 rfl (vv 4 rfl vn))))) fun v2 a23 w23 ow2 g23 s23 => ?_
        have hne2 := own_ne ow k2 (by decide)
        have hne3 := own_ne ow k3 (by decide)
        have k2 := k2.grown g23 hne2
        have k3 := k3.grown g23 hne3
        have rd := rd_grownO rd g23 (fun x hx => Nat.lt_of_lt_of_le hg (own_base ow hx))
        have z23 := grown_far z22 g23 (fun x hx => own_base ow hx)
        show wpList _ _ _ (_ :: _) _ _
        refine chainK 1 (cc rfl (p_faV0 fa_39_1 g0 (od rfl id)) cn) (by kernel_rfl) s23 fun a24 w24 b24 s24 => ?_
        have z24 := only_trans z23 (only_of_below b24 (some g))
        have rd := rd.below b24
        have k2 := k2.below b24 k2.lt
        have k3 := k3.below b24 k3.lt
        have ow2 := own_below ow2 b24
        show wpList _ _ _ (_ :: _) _ _
        refine cell_on (e2 := LXE g g2 g3 n i) 40 39 id s24 rfl rfl rfl rfl rfl k3 (Nat.lt_succ_self 1) (slice_one ow2).2 (by kernel_rfl) (slice_one ow2).1 (vv 5 rfl (vv 0 rfl (vv 2 rfl (vv 3 rfl (vv 4 rfl vn))))) fun a25 w25 k3x hw25 s25 => wpList_done ?_
        have g25 : w24.grownBy w25 (some g3) := by rw [hw25]; exact only_setCells [v2] 1 (only_refl _ _)
        have ow2 := own_grown3 ow2 g25 (own_ne ow2 k3 (by decide))
        have k3 := k3x
        have k2 := k2.grown g25 (by simp; omega)
        have rd := rd_grownO rd g25 (fun x e => by cases e; omega)
        have z25 := grown_far z24 g25 (fun x e => by cases e; exact hg3)
        refine flowT (s25.keep (sc 0 rfl (sc 2 rfl (sc 3 rfl (sc 4 rfl (sc 5 rfl sn)))))) (by kernel_rfl) (cc rfl (p_move g0 (od rfl id))
            (cc rfl (p_bin g0 (od rfl id) (oc _) (inc_3 (by omega)))
            (cc rfl (p_assign g0 (od rfl id)) cn))) fun a26 w26 b26 s26 => ?_
        have z26 := only_trans z25 (only_of_below b26 (some g))
        have rd := rd.below b26
        have k2 := k2.below b26 k2.lt
        have k3 := k3.below b26 k3.lt
        have ow2 := own_below ow2 b26
        exact ⟨hin, v2, _, _, ⟨rd, k2, k3, by rw [List.length_append, List.flatMap_append]; exact ow2, hgo, by simp [hlen], hin, z26⟩, s26.to _ ⟨rfl, rfl, rfl, rfl, rfl, True.intro⟩⟩
      · -- false
        have hbad : s.2 = true := by simpa using h25
        rw [rdP_bad hbad] at heq
        refine wp_exit ?_
        refine wp_seq ?_
        refine wp_seq ?_
        have e3 := s18.get 3 rfl
        have s18 := s18.more 3 (y := .both (.val (.pointer (some ⟨g3, 0, none⟩))) (.at rawL ⟨(nx bs (k, b) 1).1, ps⟩)) ⟨e3, by rw [show _ = _ from e3]; exact at_of_blk k3 (raw_of_own ow hg) (fun o hf => by unfold AtB at hf; simp only at hf; omega)⟩
        refine wp_region_lit ?_
        refine chainK 1 (cc rfl (p_move g0 (od rfl id)) cn) (by kernel_rfl) (s18.keep (sc 0 rfl (sc 2 rfl (sc 3 rfl sn)))) fun a27 w27 b27 s27 => ?_
        have z27 := only_trans z18 (only_of_below b27 (some g))
        have rd := rd.below b27
        have k2 := k2.below b27 k2.lt
        have k3 := k3.below b27 k3.lt
        have ow := own_below ow b27
        show wpList _ _ _ (_ :: _) _ _
        have q41 : a27.tmps.getD 41 undef = .pointer (some ⟨g, 0, none⟩) := s27.get 41 rfl
        refine rd_on [.tmp 41] s27 (fun _ => rfl) (by simp [Region.wanted]) (fun _ _ => by kernel_rfl) rfl (by decide) (show Calls Try.prog 33 #[a27.tmps.getD 41 undef] w27 _ from by rw [q41]; exact cBad rd) fun a28 w28 rd g28 s28 => ?_
        have k2 := k2.grown g28 (by simp; omega)
        have k3 := k3.grown g28 (by simp; omega)
        have ow := own_grown ow g28 hg
        have z28 := only_trans z27 g28
        refine chainT (t := []) (cc rfl (p_move g0 (od rfl id))
            (cc rfl (p_load Try.underlying39 rfl sz_39 (g1 rfl rfl) (od2 rfl (fun _ => rfl)))
            (cc rfl (p_call 49 (g1 rfl rfl) (ox (od rfl id) ox0) (fun _ _ => by kernel_rfl) (f49r (by show ps.length ≤ 100000; omega)))
            (cc rfl (p_not (g1 rfl rfl) (od rfl id))
            (cc rfl (p_or g0 (od rfl id) (od rfl id)) cn))))) (by kernel_rfl) s28 fun a29 w29 b29 s29 => wpList_done ?_
        have z29 := only_trans z28 (only_of_below b29 (some g))
        have rd := rd.below b29
        have k2 := k2.below b29 k2.lt
        have k3 := k3.below b29 k3.lt
        have ow := own_below ow b29
        refine s29.cond 47 rfl (fun h47 => ?_) (fun h47 => ?_)
        · -- true
          have hcond : s.2 = true ∨ rightB ⟨(nx bs (k, b) 1).1, ps⟩ = false := by simpa using h47
          refine wp_seq ?_
          refine wp_region_lit ?_
          refine chainK 1 (cc rfl (p_move g0 (od rfl id)) cn) (by kernel_rfl) (s29.keep (sc 0 rfl (sc 2 rfl (sc 3 rfl sn)))) fun a30 w30 b30 s30 => ?_
          have z30 := only_trans z29 (only_of_below b30 (some g))
          have rd := rd.below b30
          have k2 := k2.below b30 k2.lt
          have k3 := k3.below b30 k3.lt
          have ow := own_below ow b30
          show wpList _ _ _ (_ :: _) _ _
          have q48 : a30.tmps.getD 48 undef = .pointer (some ⟨g, 0, none⟩) := s30.get 48 rfl
          refine rd_on [.tmp 48] s30 (fun _ => rfl) (by simp [Region.wanted]) (fun _ _ => by kernel_rfl) rfl (by decide) (show Calls Try.prog 39 #[a30.tmps.getD 48 undef] w30 _ from by rw [q48]; exact cFail rd) fun a31 w31 rd g31 s31 => ?_
          have k2 := k2.grown g31 (by simp; omega)
          have k3 := k3.grown g31 (by simp; omega)
          have ow := own_grown ow g31 hg
          have z31 := only_trans z30 g31
          refine wpList_done ?_
          refine wp_seq ?_
          refine wp_region_lit ?_
          refine chainK 1 (cc rfl (p_done bz39 (y := .val (.agg #[.int .i64 0, .slice none 0 0])) (fun _ _ => rfl) g0) cn) (by kernel_rfl) (s31.keep (sc 2 rfl sn)) fun a32 w32 b32 s32 => ?_
          have z32 := only_trans z31 (only_of_below b32 (some g))
          have rd := rd.below b32
          have k2 := k2.below b32 k2.lt
          have k3 := k3.below b32 k3.lt
          have ow := own_below ow b32
          show wpList _ _ _ (_ :: _) _ _
          have hnow := own_ne ow k2 (by decide)
          refine store_on (cs := #[.int .i64 0, .slice none 0 0]) 2 50 s32 rfl rfl rfl (s32.get 50 rfl) rfl k2 rfl sz_39 (by simp [Value.oneCell']) s32.fok id (vv 2 rfl vn) fun a33 w33 k2 g33 s33 => ?_
          have ow := own_grown3 ow g33 hnow
          have rd := rd_grownO rd g33 (fun x e => by cases e; omega)
          have k3 := k3.grown g33 (by simp; omega)
          have z33 := grown_far z32 g33 (fun x e => by cases e; exact hg2)
          refine wpList_done ?_
          have hX : labX bs (k, b) = (⟨0, []⟩, (s.1, true)) := by unfold labX; rw [hn, Int.toNat_natCast, ← heq, if_pos hcond]
          rw [hX]
          refine wp_ret (then_ret ?_)
          exact bodyPost_ret (results_cell_row rfl _ _ g2 39 #[.int .i64 0, .slice none 0 0] (0, 0) _ (s33.get 2 rfl) k2 Try.underlying39 rfl (by kernel_rfl)) s33.defers ⟨.slice none 0 0, rfl, World.ownsRow_nil _ _ _ _, rd, z33⟩
        · -- false
          have hcond : ¬ (s.2 = true ∨ rightB ⟨(nx bs (k, b) 1).1, ps⟩ = false) := by simpa using h47
          refine wp_skip ?_
          refine wp_seq ?_
          have hx := ex_ok (nx bs (k, b) 1).1 ow
          have e3 := (s29.get 3 rfl).1
          have s29 := s29.more 3 (y := .both (.val (.pointer (some ⟨g3, 0, none⟩))) (.at (Lay.exact [.int .i64 (nx bs (k, b) 1).1, v] hx) ())) ⟨e3, by rw [show _ = _ from e3]; exact at_of_blk k3 rfl (fun o hf => by unfold AtB at hf; simp only at hf; omega)⟩
          refine wp_region_lit ?_
          refine chainK 1 (cc rfl (p_load Try.underlying39 rfl sz_39 g0 (od2 rfl id)) cn) (by kernel_rfl) (s29.keep (sc 2 rfl (sc 3 rfl sn))) fun a34 w34 b34 s34 => ?_
          have z34 := only_trans z29 (only_of_below b34 (some g))
          have rd := rd.below b34
          have k2 := k2.below b34 k2.lt
          have k3 := k3.below b34 k3.lt
          have ow := own_below ow b34
          show wpList _ _ _ (_ :: _) _ _
          obtain ⟨cs51, q51, e51⟩ := s34.get 51 rfl
          obtain rfl : cs51 = [.int .i64 (nx bs (k, b) 1).1, v] := e51
          have hnow := own_ne ow k2 (by decide)
          refine store_on (cs := #[.int .i64 (nx bs (k, b) 1).1, v]) 2 51 s34 rfl rfl rfl q51 rfl k2 rfl sz_39 (all_arr hx) s34.fok id (vv 2 rfl vn) fun a35 w35 k2 g35 s35 => ?_
          have ow := own_grown3 ow g35 hnow
          have rd := rd_grownO rd g35 (fun x e => by cases e; omega)
          have k3 := k3.grown g35 (by simp; omega)
          have z35 := grown_far z34 g35 (fun x e => by cases e; exact hg2)
          refine wpList_done ?_
          have hX : labX bs (k, b) = (⟨(nx bs (k, b) 1).1, ps⟩, s) := by unfold labX; rw [hn, Int.toNat_natCast, ← heq, if_neg hcond]
          rw [hX]
          refine wp_ret ?_
          exact bodyPost_ret (results_cell_row rfl _ _ g2 39 #[.int .i64 (nx bs (k, b) 1).1, v] (0, 0) _ (s35.get 2 rfl) k2 Try.underlying39 rfl (by kernel_rfl)) s35.defers ⟨v, rfl, ow, rd, z35⟩
    · -- out
      refine wp_region_lit ?_
      refine chainK 4 (cc rfl (p_move g0 (od rfl id))
          (cc rfl (p_move g0 (od rfl id))
          (cc rfl (p_bin g0 (od rfl id) (od rfl id) b_lss_3)
          (cc rfl (p_move g0 (od rfl id)) cn)))) (by kernel_rfl) (s14.keep (sc 0 rfl (sc 2 rfl (sc 3 rfl (sc 4 rfl (sc 5 rfl sn)))))) fun a36 w36 b36 s36 => ?_
      have z36 := only_trans z14 (only_of_below b36 (some g))
      have rd := rd.below b36
      have k2 := k2.below b36 k2.lt
      have k3 := k3.below b36 k3.lt
      have ow := own_below ow b36
      have s36 := s36.more 21 (y := .bool false) (bool_as (s36.get 21 rfl) (by simp; omega))
      refine chainK 1 (cc rfl (p_move (g1 rfl rfl) (od rfl (fun _ => rfl))) cn) (by kernel_rfl) s36 fun a37 w37 b37 s37 => ?_
      have z37 := only_trans z36 (only_of_below b37 (some g))
      have rd := rd.below b37
      have k2 := k2.below b37 k2.lt
      have k3 := k3.below b37 k3.lt
      have ow := own_below ow b37
      show wpList _ _ _ (_ :: _) _ _
      refine rd_off (.bool true) s37 (Eq.trans (s37.wanted (g1 rfl rfl) rfl) rfl) rfl (by decide) fun a38 s38 => ?_
      have z38 := z37
      refine chainT (t := []) (cc rfl (p_not (g1 rfl rfl) (od rfl id))
          (cc rfl (p_and g0 (od rfl id) (od rfl id)) cn)) (by kernel_rfl) s38 fun a39 w39 b39 s39 => wpList_done ?_
      have z39 := only_trans z38 (only_of_below b39 (some g))
      have rd := rd.below b39
      have k2 := k2.below b39 k2.lt
      have k3 := k3.below b39 k3.lt
      have ow := own_below ow b39
      rw [show n - i = 0 by omega, rdP] at heq
      refine s39.cond 25 rfl (fun h => absurd h (by simp)) fun _ => ?_
      refine wp_exit ?_
      refine wp_seq ?_
      refine wp_seq ?_
      have e3 := s39.get 3 rfl
      have s39 := s39.more 3 (y := .both (.val (.pointer (some ⟨g3, 0, none⟩))) (.at rawL ⟨(nx bs (k, b) 1).1, ps⟩)) ⟨e3, by rw [show _ = _ from e3]; exact at_of_blk k3 (raw_of_own ow hg) (fun o hf => by unfold AtB at hf; simp only at hf; omega)⟩
      refine wp_region_lit ?_
      refine chainK 1 (cc rfl (p_move g0 (od rfl id)) cn) (by kernel_rfl) (s39.keep (sc 0 rfl (sc 2 rfl (sc 3 rfl sn)))) fun a40 w40 b40 s40 => ?_
      have z40 := only_trans z39 (only_of_below b40 (some g))
      have rd := rd.below b40
      have k2 := k2.below b40 k2.lt
      have k3 := k3.below b40 k3.lt
      have ow := own_below ow b40
      show wpList _ _ _ (_ :: _) _ _
      have q41 : a40.tmps.getD 41 undef = .pointer (some ⟨g, 0, none⟩) := s40.get 41 rfl
      refine rd_on [.tmp 41] s40 (fun _ => rfl) (by simp [Region.wanted]) (fun _ _ => by kernel_rfl) rfl (by decide) (show Calls Try.prog 33 #[a40.tmps.getD 41 undef] w40 _ from by rw [q41]; exact cBad rd) fun a41 w41 rd g41 s41 => ?_
      have k2 := k2.grown g41 (by simp; omega)
      have k3 := k3.grown g41 (by simp; omega)
      have ow := own_grown ow g41 hg
      have z41 := only_trans z40 g41
      refine chainT (t := []) (cc rfl (p_move g0 (od rfl id))
          (cc rfl (p_load Try.underlying39 rfl sz_39 (g1 rfl rfl) (od2 rfl (fun _ => rfl)))
          (cc rfl (p_call 49 (g1 rfl rfl) (ox (od rfl id) ox0) (fun _ _ => by kernel_rfl) (f49r (by show ps.length ≤ 100000; omega)))
          (cc rfl (p_not (g1 rfl rfl) (od rfl id))
          (cc rfl (p_or g0 (od rfl id) (od rfl id)) cn))))) (by kernel_rfl) s41 fun a42 w42 b42 s42 => wpList_done ?_
      have z42 := only_trans z41 (only_of_below b42 (some g))
      have rd := rd.below b42
      have k2 := k2.below b42 k2.lt
      have k3 := k3.below b42 k3.lt
      have ow := own_below ow b42
      refine s42.cond 47 rfl (fun h47 => ?_) (fun h47 => ?_)
      · -- true
        have hcond : s.2 = true ∨ rightB ⟨(nx bs (k, b) 1).1, ps⟩ = false := by simpa using h47
        refine wp_seq ?_
        refine wp_region_lit ?_
        refine chainK 1 (cc rfl (p_move g0 (od rfl id)) cn) (by kernel_rfl) (s42.keep (sc 0 rfl (sc 2 rfl (sc 3 rfl sn)))) fun a43 w43 b43 s43 => ?_
        have z43 := only_trans z42 (only_of_below b43 (some g))
        have rd := rd.below b43
        have k2 := k2.below b43 k2.lt
        have k3 := k3.below b43 k3.lt
        have ow := own_below ow b43
        show wpList _ _ _ (_ :: _) _ _
        have q48 : a43.tmps.getD 48 undef = .pointer (some ⟨g, 0, none⟩) := s43.get 48 rfl
        refine rd_on [.tmp 48] s43 (fun _ => rfl) (by simp [Region.wanted]) (fun _ _ => by kernel_rfl) rfl (by decide) (show Calls Try.prog 39 #[a43.tmps.getD 48 undef] w43 _ from by rw [q48]; exact cFail rd) fun a44 w44 rd g44 s44 => ?_
        have k2 := k2.grown g44 (by simp; omega)
        have k3 := k3.grown g44 (by simp; omega)
        have ow := own_grown ow g44 hg
        have z44 := only_trans z43 g44
        refine wpList_done ?_
        refine wp_seq ?_
        refine wp_region_lit ?_
        refine chainK 1 (cc rfl (p_done bz39 (y := .val (.agg #[.int .i64 0, .slice none 0 0])) (fun _ _ => rfl) g0) cn) (by kernel_rfl) (s44.keep (sc 2 rfl sn)) fun a45 w45 b45 s45 => ?_
        have z45 := only_trans z44 (only_of_below b45 (some g))
        have rd := rd.below b45
        have k2 := k2.below b45 k2.lt
        have k3 := k3.below b45 k3.lt
        have ow := own_below ow b45
        show wpList _ _ _ (_ :: _) _ _
        have hnow := own_ne ow k2 (by decide)
        refine store_on (cs := #[.int .i64 0, .slice none 0 0]) 2 50 s45 rfl rfl rfl (s45.get 50 rfl) rfl k2 rfl sz_39 (by simp [Value.oneCell']) s45.fok id (vv 2 rfl vn) fun a46 w46 k2 g46 s46 => ?_
        have ow := own_grown3 ow g46 hnow
        have rd := rd_grownO rd g46 (fun x e => by cases e; omega)
        have k3 := k3.grown g46 (by simp; omega)
        have z46 := grown_far z45 g46 (fun x e => by cases e; exact hg2)
        refine wpList_done ?_
        have hX : labX bs (k, b) = (⟨0, []⟩, (s.1, true)) := by unfold labX; rw [hn, Int.toNat_natCast, ← heq, if_pos hcond]
        rw [hX]
        refine wp_ret (then_ret ?_)
        exact bodyPost_ret (results_cell_row rfl _ _ g2 39 #[.int .i64 0, .slice none 0 0] (0, 0) _ (s46.get 2 rfl) k2 Try.underlying39 rfl (by kernel_rfl)) s46.defers ⟨.slice none 0 0, rfl, World.ownsRow_nil _ _ _ _, rd, z46⟩
      · -- false
        have hcond : ¬ (s.2 = true ∨ rightB ⟨(nx bs (k, b) 1).1, ps⟩ = false) := by simpa using h47
        refine wp_skip ?_
        refine wp_seq ?_
        have hx := ex_ok (nx bs (k, b) 1).1 ow
        have e3 := (s42.get 3 rfl).1
        have s42 := s42.more 3 (y := .both (.val (.pointer (some ⟨g3, 0, none⟩))) (.at (Lay.exact [.int .i64 (nx bs (k, b) 1).1, v] hx) ())) ⟨e3, by rw [show _ = _ from e3]; exact at_of_blk k3 rfl (fun o hf => by unfold AtB at hf; simp only at hf; omega)⟩
        refine wp_region_lit ?_
        refine chainK 1 (cc rfl (p_load Try.underlying39 rfl sz_39 g0 (od2 rfl id)) cn) (by kernel_rfl) (s42.keep (sc 2 rfl (sc 3 rfl sn))) fun a47 w47 b47 s47 => ?_
        have z47 := only_trans z42 (only_of_below b47 (some g))
        have rd := rd.below b47
        have k2 := k2.below b47 k2.lt
        have k3 := k3.below b47 k3.lt
        have ow := own_below ow b47
        show wpList _ _ _ (_ :: _) _ _
        obtain ⟨cs51, q51, e51⟩ := s47.get 51 rfl
        obtain rfl : cs51 = [.int .i64 (nx bs (k, b) 1).1, v] := e51
        have hnow := own_ne ow k2 (by decide)
        refine store_on (cs := #[.int .i64 (nx bs (k, b) 1).1, v]) 2 51 s47 rfl rfl rfl q51 rfl k2 rfl sz_39 (all_arr hx) s47.fok id (vv 2 rfl vn) fun a48 w48 k2 g48 s48 => ?_
        have ow := own_grown3 ow g48 hnow
        have rd := rd_grownO rd g48 (fun x e => by cases e; omega)
        have k3 := k3.grown g48 (by simp; omega)
        have z48 := grown_far z47 g48 (fun x e => by cases e; exact hg2)
        refine wpList_done ?_
        have hX : labX bs (k, b) = (⟨(nx bs (k, b) 1).1, ps⟩, s) := by unfold labX; rw [hn, Int.toNat_natCast, ← heq, if_neg hcond]
        rw [hX]
        refine wp_ret ?_
        exact bodyPost_ret (results_cell_row rfl _ _ g2 39 #[.int .i64 (nx bs (k, b) 1).1, v] (0, 0) _ (s48.get 2 rfl) k2 Try.underlying39 rfl (by kernel_rfl)) s48.defers ⟨v, rfl, ow, rd, z48⟩
  · -- false
    have rd : Pk.RdAt w10 g bs (labS bs (k, b)).1 (labS bs (k, b)).2 := by unfold labS; rw [if_neg (by rw [hn]; exact of_decide_eq_false h15)]; exact rd
    refine wp_skip ?_
    refine wp_seq ?_
    refine wp_seq ?_
    refine flowC mixed (s10.keep (sc 0 rfl (sc 2 rfl (sc 3 rfl (sc 4 rfl sn))))) (by kernel_rfl) (by kernel_rfl) (cc rfl (p_assign g0 (oc _)) cn) fun a49 w49 b49 s49 => ?_
    have z49 := only_trans z10 (only_of_below b49 (some g))
    have rd := rd.below b49
    have k2 := k2.below b49 k2.lt
    have k3 := k3.below b49 k3.lt
    refine wp_block ?_
    refine wp_count n 5 (LXI w g g2 g3 n (nx bs (k, b) 1).1 bs (labS bs (k, b))) (fun _ _ _ ⟨_, _, _, _, hs⟩ => hs.get 5 rfl) ⟨_, [], _, ⟨rd, k2, k3, World.ownsRow_nil _ _ _ _, rfl, rfl, Nat.zero_le _, z49⟩, s49.to _ ⟨rfl, rfl, rfl, rfl, rfl, True.intro⟩⟩ fun i a50 w50 hi50 hI => ?_
    obtain ⟨v, ps, s, ⟨rd, k2, k3, ow, heq, hlen, hle, z50⟩, s50⟩ := hI
    refine wp_seq ?_
    refine wp_seq ?_
    by_cases hin : i < n
    · -- in
      refine wp_region_lit ?_
      refine chainK 4 (cc rfl (p_move g0 (od rfl id))
          (cc rfl (p_move g0 (od rfl id))
          (cc rfl (p_bin g0 (od rfl id) (od rfl id) b_lss_3)
          (cc rfl (p_move g0 (od rfl id)) cn)))) (by kernel_rfl) (s50.keep (sc 0 rfl (sc 2 rfl (sc 3 rfl (sc 4 rfl (sc 5 rfl sn)))))) fun a51 w51 b51 s51 => ?_
      have z51 := only_trans z50 (only_of_below b51 (some g))
      have rd := rd.below b51
      have k2 := k2.below b51 k2.lt
      have k3 := k3.below b51 k3.lt
      have ow := own_below ow b51
      have s51 := s51.more 21 (y := .bool true) (bool_as (s51.get 21 rfl) (by simp [hin]))
      refine chainK 1 (cc rfl (p_move (g1 rfl rfl) (od rfl (fun _ => rfl))) cn) (by kernel_rfl) s51 fun a52 w52 b52 s52 => ?_
      have z52 := only_trans z51 (only_of_below b52 (some g))
      have rd := rd.below b52
      have k2 := k2.below b52 k2.lt
      have k3 := k3.below b52 k3.lt
      have ow := own_below ow b52
      show wpList _ _ _ (_ :: _) _ _
      have q22 : a52.tmps.getD 22 undef = .pointer (some ⟨g, 0, none⟩) := s52.get 22 rfl
      refine rd_on [.tmp 22] s52 (fun _ => rfl) (Eq.trans (s52.wanted (g1 rfl rfl) rfl) rfl) (fun _ _ => by kernel_rfl) rfl (by decide) (show Calls Try.prog 33 #[a52.tmps.getD 22 undef] w52 _ from by rw [q22]; exact cBad rd) fun a53 w53 rd g53 s53 => ?_
      have k2 := k2.grown g53 (by simp; omega)
      have k3 := k3.grown g53 (by simp; omega)
      have ow := own_grown ow g53 hg
      have z53 := only_trans z52 g53
      refine chainT (t := []) (cc rfl (p_not (g1 rfl rfl) (od rfl (fun _ => rfl)))
          (cc rfl (p_and g0 (od rfl id) (od rfl id)) cn)) (by kernel_rfl) s53 fun a54 w54 b54 s54 => wpList_done ?_
      have z54 := only_trans z53 (only_of_below b54 (some g))
      have rd := rd.below b54
      have k2 := k2.below b54 k2.lt
      have k3 := k3.below b54 k3.lt
      have ow := own_below ow b54
      refine s54.cond 25 rfl (fun h25 => ?_) (fun h25 => ?_)
      · -- true
        have hbad : s.2 = false := by simpa using h25
        have hgo := heq
        rw [show n - i = (n - (i + 1)) + 1 by omega, rdP_go hbad] at hgo
        refine wp_skip ?_
        refine wp_seq ?_
        refine wp_block ?_
        refine wp_seq ?_
        refine wp_region_lit ?_
        refine chainK 1 (cc rfl (p_move g0 (od rfl id)) cn) (by kernel_rfl) (s54.keep (sc 0 rfl (sc 2 rfl (sc 3 rfl (sc 4 rfl (sc 5 rfl (sc 18 rfl (sc 19 rfl (sc 20 rfl (sc 21 rfl (sc 22 rfl (sc 23 rfl (sc 24 rfl (sc 25 rfl sn)))))))))))))) fun a55 w55 b55 s55 => ?_
        have z55 := only_trans z54 (only_of_below b55 (some g))
        have rd := rd.below b55
        have k2 := k2.below b55 k2.lt
        have k3 := k3.below b55 k3.lt
        have ow := own_below ow b55
        show wpList _ _ _ (_ :: _) _ _
        have q28 : a55.tmps.getD 28 undef = .pointer (some ⟨g, 0, none⟩) := s55.get 28 rfl
        refine rd_on [.tmp 28, .const (.int .i64 4)] s55 (fun _ => rfl) (by simp [Region.wanted]) (fun _ _ => by kernel_rfl) rfl (by decide) (show Calls Try.prog 32 #[a55.tmps.getD 28 undef, .int .i64 4] w55 _ from by rw [q28]; exact cNumS (s := s) rd hB hm (n := 4) (by decide) (by decide)) fun a56 w56 rd g56 s56 => ?_
        have k2 := k2.grown g56 (by simp; omega)
        have k3 := k3.grown g56 (by simp; omega)
        have ow := own_grown ow g56 hg
        have z56 := only_trans z55 g56
        refine chainT (t := []) (cc rfl (p_cvE (n' := (nx bs s 4).1) (by have := nx4 hB s; rw [IntKind.wrap_u32]; omega) g0 (od rfl id) cv_23_70)
            (cc rfl (p_assign g0 (od rfl id)) cn)) (by kernel_rfl) s56 fun a57 w57 b57 s57 => wpList_done ?_
        have z57 := only_trans z56 (only_of_below b57 (some g))
        have rd := rd.below b57
        have k2 := k2.below b57 k2.lt
        have k3 := k3.below b57 k3.lt
        have ow := own_below ow b57
        have hx := ex_ok (nx bs (k, b) 1).1 ow
        have e3 := s57.get 3 rfl
        have s57 := s57.more 3 (y := .both (.val (.pointer (some ⟨g3, 0, none⟩))) (.at (Lay.exact [.int .i64 (nx bs (k, b) 1).1, v] hx) ())) ⟨e3, by rw [show _ = _ from e3]; exact at_of_blk k3 rfl (fun o hf => by unfold AtB at hf; simp only at hf; omega)⟩
        refine flowE 8 4 g 35 (.int .u64 (nx bs (nx bs s 4).2 1).1) (fun wr => Pk.RdAt wr g bs (nx bs s 4).2.1 (nx bs s 4).2.2) (fun wr => Pk.RdAt wr g bs (nx bs (nx bs s 4).2 1).2.1 (nx bs (nx bs s 4).2 1).2.2) mixed (s57.keep (sc 0 rfl (sc 2 rfl (sc 3 rfl (sc 4 rfl (sc 5 rfl (sc 6 rfl sn))))))) (fun _ => rfl) rd (fun h hb => h.below hb) (fun h hb => h.below hb) (by kernel_rfl) (by decide) (cc rfl (p_fieldAddr (ex_part hx) fa_39_1 g0 (od2 rfl id))
            (cc rfl (p_load1 rfl ld_37 g0 (od rfl id))
            (cc rfl (p_move g0 (od rfl id))
            (cc rfl (p_move g0 (od rfl id)) cn)))) (by kernel_rfl) (cc rfl (p_cvE (n' := (nx bs (nx bs s 4).2 1).1) (by have := nx1 hB (nx bs s 4).2; rw [IntKind.wrap_i64]; omega) g0 (od rfl id) cv_23_3)
            (cc rfl (p_bd90 g0 (od rfl id) (od rfl id))
            (cc rfl (p_lit prF bs_37 g0 (od rfl id)) cn))) (by kernel_rfl) (by kernel_rfl) (fun ac wc o ho hsz hf hknow hrd R hR => ?_) rfl fun a58 w58 g58 rd s58 => ?_
        · obtain rfl := Option.some.inj ho
          have q34 : ac.tmps.getD 34 undef = .pointer (some ⟨g, 0, none⟩) := (hknow 34 (List.contains_iff_mem.1 (by kernel_rfl)) _ rfl).1 rfl
          refine call_wp 32 [.tmp 34, .const (.int .i64 1)] rfl (fun _ _ => by kernel_rfl) ?_
          refine (show Calls Try.prog 32 #[ac.tmps.getD 34 undef, .int .i64 1] wc _ from by rw [q34]; exact cNumS (s := (nx bs s 4).2) hrd hB hm (n := 1) (by decide) (by decide)).mono ?_
          rintro _ w' ⟨rfl, h1, h2⟩
          exact ⟨_, rfl, hR _ w' h2 (fun _ => rd_blk h1) h1 rfl⟩
        have k2 := k2.grown g58 (by simp; omega)
        have k3 := k3.grown g58 (by simp; omega)
        have ow := own_grown ow g58 hg
        have z58 := only_trans z57 g58
        show wpList _ _ _ (_ :: _) _ _
        have q32 : a58.tmps.getD 32 undef = v := by have q := s58.get 32 (y := .one (Lay.exact [v] _) ()) rfl; exact List.singleton_inj.1 q
        have e3 := (s58.get 3 rfl).1
        have s58 := s58.more 3 (y := .val (.pointer (some ⟨g3, 0, none⟩))) e3
        refine app_on (e2 := LXE g g2 g3 n i) 32 38 id s58 rfl rfl (by decide) rfl Try.underlying37 hi0 hz0 hz1 hz2 rfl (by decide) ow q32 rfl rfl (prF.one _) (by unfold maxLen; omega) (by omega) z58.size (vv 5 rfl (vv 0 rfl (vv 2 rfl (vv 3 rfl (vv 4 rfl vn))))) fun v2 a59 w59 ow2 g59 s59 => ?_
        have hne2 := own_ne ow k2 (by decide)
        have hne3 := own_ne ow k3 (by decide)
        have k2 := k2.grown g59 hne2
        have k3 := k3.grown g59 hne3
        have rd := rd_grownO rd g59 (fun x hx => Nat.lt_of_lt_of_le hg (own_base ow hx))
        have z59 := grown_far z58 g59 (fun x hx => own_base ow hx)
        show wpList _ _ _ (_ :: _) _ _
        refine chainK 1 (cc rfl (p_faV0 fa_39_1 g0 (od rfl id)) cn) (by kernel_rfl) s59 fun a60 w60 b60 s60 => ?_
        have z60 := only_trans z59 (only_of_below b60 (some g))
        have rd := rd.below b60
        have k2 := k2.below b60 k2.lt
        have k3 := k3.below b60 k3.lt
        have ow2 := own_below ow2 b60
        show wpList _ _ _ (_ :: _) _ _
        refine cell_on (e2 := LXE g g2 g3 n i) 40 39 id s60 rfl rfl rfl rfl rfl k3 (Nat.lt_succ_self 1) (slice_one ow2).2 (by kernel_rfl) (slice_one ow2).1 (vv 5 rfl (vv 0 rfl (vv 2 rfl (vv 3 rfl (vv 4 rfl vn))))) fun a61 w61 k3x hw61 s61 => wpList_done ?_
        have g61 : w60.grownBy w61 (some g3) := by rw [hw61]; exact only_setCells [v2] 1 (only_refl _ _)
        have ow2 := own_grown3 ow2 g61 (own_ne ow2 k3 (by decide))
        have k3 := k3x
        have k2 := k2.grown g61 (by simp; omega)
        have rd := rd_grownO rd g61 (fun x e => by cases e; omega)
        have z61 := grown_far z60 g61 (fun x e => by cases e; exact hg3)
        refine flowT (s61.keep (sc 0 rfl (sc 2 rfl (sc 3 rfl (sc 4 rfl (sc 5 rfl sn)))))) (by kernel_rfl) (cc rfl (p_move g0 (od rfl id))
            (cc rfl (p_bin g0 (od rfl id) (oc _) (inc_3 (by omega)))
            (cc rfl (p_assign g0 (od rfl id)) cn))) fun a62 w62 b62 s62 => ?_
        have z62 := only_trans z61 (only_of_below b62 (some g))
        have rd := rd.below b62
        have k2 := k2.below b62 k2.lt
        have k3 := k3.below b62 k3.lt
        have ow2 := own_below ow2 b62
        exact ⟨hin, v2, _, _, ⟨rd, k2, k3, by rw [List.length_append, List.flatMap_append]; exact ow2, hgo, by simp [hlen], hin, z62⟩, s62.to _ ⟨rfl, rfl, rfl, rfl, rfl, True.intro⟩⟩
      · -- false
        have hbad : s.2 = true := by simpa using h25
        rw [rdP_bad hbad] at heq
        refine wp_exit ?_
        refine wp_seq ?_
        refine wp_seq ?_
        have e3 := s54.get 3 rfl
        have s54 := s54.more 3 (y := .both (.val (.pointer (some ⟨g3, 0, none⟩))) (.at rawL ⟨(nx bs (k, b) 1).1, ps⟩)) ⟨e3, by rw [show _ = _ from e3]; exact at_of_blk k3 (raw_of_own ow hg) (fun o hf => by unfold AtB at hf; simp only at hf; omega)⟩
        refine wp_region_lit ?_
        refine chainK 1 (cc rfl (p_move g0 (od rfl id)) cn) (by kernel_rfl) (s54.keep (sc 0 rfl (sc 2 rfl (sc 3 rfl sn)))) fun a63 w63 b63 s63 => ?_
        have z63 := only_trans z54 (only_of_below b63 (some g))
        have rd := rd.below b63
        have k2 := k2.below b63 k2.lt
        have k3 := k3.below b63 k3.lt
        have ow := own_below ow b63
        show wpList _ _ _ (_ :: _) _ _
        have q41 : a63.tmps.getD 41 undef = .pointer (some ⟨g, 0, none⟩) := s63.get 41 rfl
        refine rd_on [.tmp 41] s63 (fun _ => rfl) (by simp [Region.wanted]) (fun _ _ => by kernel_rfl) rfl (by decide) (show Calls Try.prog 33 #[a63.tmps.getD 41 undef] w63 _ from by rw [q41]; exact cBad rd) fun a64 w64 rd g64 s64 => ?_
        have k2 := k2.grown g64 (by simp; omega)
        have k3 := k3.grown g64 (by simp; omega)
        have ow := own_grown ow g64 hg
        have z64 := only_trans z63 g64
        refine chainT (t := []) (cc rfl (p_move g0 (od rfl id))
            (cc rfl (p_load Try.underlying39 rfl sz_39 (g1 rfl rfl) (od2 rfl (fun _ => rfl)))
            (cc rfl (p_call 49 (g1 rfl rfl) (ox (od rfl id) ox0) (fun _ _ => by kernel_rfl) (f49r (by show ps.length ≤ 100000; omega)))
            (cc rfl (p_not (g1 rfl rfl) (od rfl id))
            (cc rfl (p_or g0 (od rfl id) (od rfl id)) cn))))) (by kernel_rfl) s64 fun a65 w65 b65 s65 => wpList_done ?_
        have z65 := only_trans z64 (only_of_below b65 (some g))
        have rd := rd.below b65
        have k2 := k2.below b65 k2.lt
        have k3 := k3.below b65 k3.lt
        have ow := own_below ow b65
        refine s65.cond 47 rfl (fun h47 => ?_) (fun h47 => ?_)
        · -- true
          have hcond : s.2 = true ∨ rightB ⟨(nx bs (k, b) 1).1, ps⟩ = false := by simpa using h47
          refine wp_seq ?_
          refine wp_region_lit ?_
          refine chainK 1 (cc rfl (p_move g0 (od rfl id)) cn) (by kernel_rfl) (s65.keep (sc 0 rfl (sc 2 rfl (sc 3 rfl sn)))) fun a66 w66 b66 s66 => ?_
          have z66 := only_trans z65 (only_of_below b66 (some g))
          have rd := rd.below b66
          have k2 := k2.below b66 k2.lt
          have k3 := k3.below b66 k3.lt
          have ow := own_below ow b66
          show wpList _ _ _ (_ :: _) _ _
          have q48 : a66.tmps.getD 48 undef = .pointer (some ⟨g, 0, none⟩) := s66.get 48 rfl
          refine rd_on [.tmp 48] s66 (fun _ => rfl) (by simp [Region.wanted]) (fun _ _ => by kernel_rfl) rfl (by decide) (show Calls Try.prog 39 #[a66.tmps.getD 48 undef] w66 _ from by rw [q48]; exact cFail rd) fun a67 w67 rd g67 s67 => ?_
          have k2 := k2.grown g67 (by simp; omega)
          have k3 := k3.grown g67 (by simp; omega)
          have ow := own_grown ow g67 hg
          have z67 := only_trans z66 g67
          refine wpList_done ?_
          refine wp_seq ?_
          refine wp_region_lit ?_
          refine chainK 1 (cc rfl (p_done bz39 (y := .val (.agg #[.int .i64 0, .slice none 0 0])) (fun _ _ => rfl) g0) cn) (by kernel_rfl) (s67.keep (sc 2 rfl sn)) fun a68 w68 b68 s68 => ?_
          have z68 := only_trans z67 (only_of_below b68 (some g))
          have rd := rd.below b68
          have k2 := k2.below b68 k2.lt
          have k3 := k3.below b68 k3.lt
          have ow := own_below ow b68
          show wpList _ _ _ (_ :: _) _ _
          have hnow := own_ne ow k2 (by decide)
          refine store_on (cs := #[.int .i64 0, .slice none 0 0]) 2 50 s68 rfl rfl rfl (s68.get 50 rfl) rfl k2 rfl sz_39 (by simp [Value.oneCell']) s68.fok id (vv 2 rfl vn) fun a69 w69 k2 g69 s69 => ?_
          have ow := own_grown3 ow g69 hnow
          have rd := rd_grownO rd g69 (fun x e => by cases e; omega)
          have k3 := k3.grown g69 (by simp; omega)
          have z69 := grown_far z68 g69 (fun x e => by cases e; exact hg2)
          refine wpList_done ?_
          have hX : labX bs (k, b) = (⟨0, []⟩, (s.1, true)) := by unfold labX; rw [hn, Int.toNat_natCast, ← heq, if_pos hcond]
          rw [hX]
          refine wp_ret (then_ret ?_)
          exact bodyPost_ret (results_cell_row rfl _ _ g2 39 #[.int .i64 0, .slice none 0 0] (0, 0) _ (s69.get 2 rfl) k2 Try.underlying39 rfl (by kernel_rfl)) s69.defers ⟨.slice none 0 0, rfl, World.ownsRow_nil _ _ _ _, rd, z69⟩
        · -- false
          have hcond : ¬ (s.2 = true ∨ rightB ⟨(nx bs (k, b) 1).1, ps⟩ = false) := by simpa using h47
          refine wp_skip ?_
          refine wp_seq ?_
          have hx := ex_ok (nx bs (k, b) 1).1 ow
          have e3 := (s65.get 3 rfl).1
          have s65 := s65.more 3 (y := .both (.val (.pointer (some ⟨g3, 0, none⟩))) (.at (Lay.exact [.int .i64 (nx bs (k, b) 1).1, v] hx) ())) ⟨e3, by rw [show _ = _ from e3]; exact at_of_blk k3 rfl (fun o hf => by unfold AtB at hf; simp only at hf; omega)⟩
          refine wp_region_lit ?_
          refine chainK 1 (cc rfl (p_load Try.underlying39 rfl sz_39 g0 (od2 rfl id)) cn) (by kernel_rfl) (s65.keep (sc 2 rfl (sc 3 rfl sn))) fun a70 w70 b70 s70 => ?_
          have z70 := only_trans z65 (only_of_below b70 (some g))
          have rd := rd.below b70
          have k2 := k2.below b70 k2.lt
          have k3 := k3.below b70 k3.lt
          have ow := own_below ow b70
          show wpList _ _ _ (_ :: _) _ _
          obtain ⟨cs51, q51, e51⟩ := s70.get 51 rfl
          obtain rfl : cs51 = [.int .i64 (nx bs (k, b) 1).1, v] := e51
          have hnow := own_ne ow k2 (by decide)
          refine store_on (cs := #[.int .i64 (nx bs (k, b) 1).1, v]) 2 51 s70 rfl rfl rfl q51 rfl k2 rfl sz_39 (all_arr hx) s70.fok id (vv 2 rfl vn) fun a71 w71 k2 g71 s71 => ?_
          have ow := own_grown3 ow g71 hnow
          have rd := rd_grownO rd g71 (fun x e => by cases e; omega)
          have k3 := k3.grown g71 (by simp; omega)
          have z71 := grown_far z70 g71 (fun x e => by cases e; exact hg2)
          refine wpList_done ?_
          have hX : labX bs (k, b) = (⟨(nx bs (k, b) 1).1, ps⟩, s) := by unfold labX; rw [hn, Int.toNat_natCast, ← heq, if_neg hcond]
          rw [hX]
          refine wp_ret ?_
          exact bodyPost_ret (results_cell_row rfl _ _ g2 39 #[.int .i64 (nx bs (k, b) 1).1, v] (0, 0) _ (s71.get 2 rfl) k2 Try.underlying39 rfl (by kernel_rfl)) s71.defers ⟨v, rfl, ow, rd, z71⟩
    · -- out
      refine wp_region_lit ?_
      refine chainK 4 (cc rfl (p_move g0 (od rfl id))
          (cc rfl (p_move g0 (od rfl id))
          (cc rfl (p_bin g0 (od rfl id) (od rfl id) b_lss_3)
          (cc rfl (p_move g0 (od rfl id)) cn)))) (by kernel_rfl) (s50.keep (sc 0 rfl (sc 2 rfl (sc 3 rfl (sc 4 rfl (sc 5 rfl sn)))))) fun a72 w72 b72 s72 => ?_
      have z72 := only_trans z50 (only_of_below b72 (some g))
      have rd := rd.below b72
      have k2 := k2.below b72 k2.lt
      have k3 := k3.below b72 k3.lt
      have ow := own_below ow b72
      have s72 := s72.more 21 (y := .bool false) (bool_as (s72.get 21 rfl) (by simp; omega))
      refine chainK 1 (cc rfl (p_move (g1 rfl rfl) (od rfl (fun _ => rfl))) cn) (by kernel_rfl) s72 fun a73 w73 b73 s73 => ?_
      have z73 := only_trans z72 (only_of_below b73 (some g))
      have rd := rd.below b73
      have k2 := k2.below b73 k2.lt
      have k3 := k3.below b73 k3.lt
      have ow := own_below ow b73
      show wpList _ _ _ (_ :: _) _ _
      refine rd_off (.bool true) s73 (Eq.trans (s73.wanted (g1 rfl rfl) rfl) rfl) rfl (by decide) fun a74 s74 => ?_
      have z74 := z73
      refine chainT (t := []) (cc rfl (p_not (g1 rfl rfl) (od rfl id))
          (cc rfl (p_and g0 (od rfl id) (od rfl id)) cn)) (by kernel_rfl) s74 fun a75 w75 b75 s75 => wpList_done ?_
      have z75 := only_trans z74 (only_of_below b75 (some g))
      have rd := rd.below b75
      have k2 := k2.below b75 k2.lt
      have k3 := k3.below b75 k3.lt
      have ow := own_below ow b75
      rw [show n - i = 0 by omega, rdP] at heq
      refine s75.cond 25 rfl (fun h => absurd h (by simp)) fun _ => ?_
      refine wp_exit ?_
      refine wp_seq ?_
      refine wp_seq ?_
      have e3 := s75.get 3 rfl
      have s75 := s75.more 3 (y := .both (.val (.pointer (some ⟨g3, 0, none⟩))) (.at rawL ⟨(nx bs (k, b) 1).1, ps⟩)) ⟨e3, by rw [show _ = _ from e3]; exact at_of_blk k3 (raw_of_own ow hg) (fun o hf => by unfold AtB at hf; simp only at hf; omega)⟩
      refine wp_region_lit ?_
      refine chainK 1 (cc rfl (p_move g0 (od rfl id)) cn) (by kernel_rfl) (s75.keep (sc 0 rfl (sc 2 rfl (sc 3 rfl sn)))) fun a76 w76 b76 s76 => ?_
      have z76 := only_trans z75 (only_of_below b76 (some g))
      have rd := rd.below b76
      have k2 := k2.below b76 k2.lt
      have k3 := k3.below b76 k3.lt
      have ow := own_below ow b76
      show wpList _ _ _ (_ :: _) _ _
      have q41 : a76.tmps.getD 41 undef = .pointer (some ⟨g, 0, none⟩) := s76.get 41 rfl
      refine rd_on [.tmp 41] s76 (fun _ => rfl) (by simp [Region.wanted]) (fun _ _ => by kernel_rfl) rfl (by decide) (show Calls Try.prog 33 #[a76.tmps.getD 41 undef] w76 _ from by rw [q41]; exact cBad rd) fun a77 w77 rd g77 s77 => ?_
      have k2 := k2.grown g77 (by simp; omega)
      have k3 := k3.grown g77 (by simp; omega)
      have ow := own_grown ow g77 hg
      have z77 := only_trans z76 g77
      refine chainT (t := []) (cc rfl (p_move g0 (od rfl id))
          (cc rfl (p_load Try.underlying39 rfl sz_39 (g1 rfl rfl) (od2 rfl (fun _ => rfl)))
          (cc rfl (p_call 49 (g1 rfl rfl) (ox (od rfl id) ox0) (fun _ _ => by kernel_rfl) (f49r (by show ps.length ≤ 100000; omega)))
          (cc rfl (p_not (g1 rfl rfl) (od rfl id))
          (cc rfl (p_or g0 (od rfl id) (od rfl id)) cn))))) (by kernel_rfl) s77 fun a78 w78 b78 s78 => wpList_done ?_
      have z78 := only_trans z77 (only_of_below b78 (some g))
      have rd := rd.below b78
      have k2 := k2.below b78 k2.lt
      have k3 := k3.below b78 k3.lt
      have ow := own_below ow b78
      refine s78.cond 47 rfl (fun h47 => ?_) (fun h47 => ?_)
      · -- true
        have hcond : s.2 = true ∨ rightB ⟨(nx bs (k, b) 1).1, ps⟩ = false := by simpa using h47
        refine wp_seq ?_
        refine wp_region_lit ?_
        refine chainK 1 (cc rfl (p_move g0 (od rfl id)) cn) (by kernel_rfl) (s78.keep (sc 0 rfl (sc 2 rfl (sc 3 rfl sn)))) fun a79 w79 b79 s79 => ?_
        have z79 := only_trans z78 (only_of_below b79 (some g))
        have rd := rd.below b79
        have k2 := k2.below b79 k2.lt
        have k3 := k3.below b79 k3.lt
        have ow := own_below ow b79
        show wpList _ _ _ (_ :: _) _ _
        have q48 : a79.tmps.getD 48 undef = .pointer (some ⟨g, 0, none⟩) := s79.get 48 rfl
        refine rd_on [.tmp 48] s79 (fun _ => rfl) (by simp [Region.wanted]) (fun _ _ => by kernel_rfl) rfl (by decide) (show Calls Try.prog 39 #[a79.tmps.getD 48 undef] w79 _ from by rw [q48]; exact cFail rd) fun a80 w80 rd g80 s80 => ?_
        have k2 := k2.grown g80 (by simp; omega)
        have k3 := k3.grown g80 (by simp; omega)
        have ow := own_grown ow g80 hg
        have z80 := only_trans z79 g80
        refine wpList_done ?_
        refine wp_seq ?_
        refine wp_region_lit ?_
        refine chainK 1 (cc rfl (p_done bz39 (y := .val (.agg #[.int .i64 0, .slice none 0 0])) (fun _ _ => rfl) g0) cn) (by kernel_rfl) (s80.keep (sc 2 rfl sn)) fun a81 w81 b81 s81 => ?_
        have z81 := only_trans z80 (only_of_below b81 (some g))
        have rd := rd.below b81
        have k2 := k2.below b81 k2.lt
        have k3 := k3.below b81 k3.lt
        have ow := own_below ow b81
        show wpList _ _ _ (_ :: _) _ _
        have hnow := own_ne ow k2 (by decide)
        refine store_on (cs := #[.int .i64 0, .slice none 0 0]) 2 50 s81 rfl rfl rfl (s81.get 50 rfl) rfl k2 rfl sz_39 (by simp [Value.oneCell']) s81.fok id (vv 2 rfl vn) fun a82 w82 k2 g82 s82 => ?_
        have ow := own_grown3 ow g82 hnow
        have rd := rd_grownO rd g82 (fun x e => by cases e; omega)
        have k3 := k3.grown g82 (by simp; omega)
        have z82 := grown_far z81 g82 (fun x e => by cases e; exact hg2)
        refine wpList_done ?_
        have hX : labX bs (k, b) = (⟨0, []⟩, (s.1, true)) := by unfold labX; rw [hn, Int.toNat_natCast, ← heq, if_pos hcond]
        rw [hX]
        refine wp_ret (then_ret ?_)
        exact bodyPost_ret (results_cell_row rfl _ _ g2 39 #[.int .i64 0, .slice none 0 0] (0, 0) _ (s82.get 2 rfl) k2 Try.underlying39 rfl (by kernel_rfl)) s82.defers ⟨.slice none 0 0, rfl, World.ownsRow_nil _ _ _ _, rd, z82⟩
      · -- false
        have hcond : ¬ (s.2 = true ∨ rightB ⟨(nx bs (k, b) 1).1, ps⟩ = false) := by simpa using h47
        refine wp_skip ?_
        refine wp_seq ?_
        have hx := ex_ok (nx bs (k, b) 1).1 ow
        have e3 := (s78.get 3 rfl).1
        have s78 := s78.more 3 (y := .both (.val (.pointer (some ⟨g3, 0, none⟩))) (.at (Lay.exact [.int .i64 (nx bs (k, b) 1).1, v] hx) ())) ⟨e3, by rw [show _ = _ from e3]; exact at_of_blk k3 rfl (fun o hf => by unfold AtB at hf; simp only at hf; omega)⟩
        refine wp_region_lit ?_
        refine chainK 1 (cc rfl (p_load Try.underlying39 rfl sz_39 g0 (od2 rfl id)) cn) (by kernel_rfl) (s78.keep (sc 2 rfl (sc 3 rfl sn))) fun a83 w83 b83 s83 => ?_
        have z83 := only_trans z78 (only_of_below b83 (some g))
        have rd := rd.below b83
        have k2 := k2.below b83 k2.lt
        have k3 := k3.below b83 k3.lt
        have ow := own_below ow b83
        show wpList _ _ _ (_ :: _) _ _
        obtain ⟨cs51, q51, e51⟩ := s83.get 51 rfl
        obtain rfl : cs51 = [.int .i64 (nx bs (k, b) 1).1, v] := e51
        have hnow := own_ne ow k2 (by decide)
        refine store_on (cs := #[.int .i64 (nx bs (k, b) 1).1, v]) 2 51 s83 rfl rfl rfl q51 rfl k2 rfl sz_39 (all_arr hx) s83.fok id (vv 2 rfl vn) fun a84 w84 k2 g84 s84 => ?_
        have ow := own_grown3 ow g84 hnow
        have rd := rd_grownO rd g84 (fun x e => by cases e; omega)
        have k3 := k3.grown g84 (by simp; omega)
        have z84 := grown_far z83 g84 (fun x e => by cases e; exact hg2)
        refine wpList_done ?_
        have hX : labX bs (k, b) = (⟨(nx bs (k, b) 1).1, ps⟩, s) := by unfold labX; rw [hn, Int.toNat_natCast, ← heq, if_neg hcond]
        rw [hX]
        refine wp_ret ?_
        exact bodyPost_ret (results_cell_row rfl _ _ g2 39 #[.int .i64 (nx bs (k, b) 1).1, v] (0, 0) _ (s84.get 2 rfl) k2 Try.underlying39 rfl (by kernel_rfl)) s84.defers ⟨v, rfl, ow, rd, z84⟩
end Go.Proofs.Ytihddficgpjgpaa.Y
namespace Go.Proofs.Ytihddficgpjgpaa.Y
open Go.RowKit Go.ChangeShapes Go.WideShapes
theorem opens_ints : Opens Try.prog 34 (Lay.sl (Lay.int .i64)) (fun l => l.length ≤ maxLen ∧ ∀ x ∈ l, (Lit.int .i64 x).wf = true) := opens_slice ⟨0⟩ Try.underlying34 (by kernel_rfl) (by decide) (opens_int Try.underlying3)
theorem opens_seed : Opens Try.prog 36 sdL (fun _ => True) := fun enc w fuel cs d ps h hlt => by
  obtain ⟨⟨D, L⟩, ⟨_, h1, _⟩, h2⟩ := opens_struct (L := seedL0) (fs := [_, _]) Try.underlying36 (by kernel_rfl) (fs_cons rfl (by kernel_rfl) (opens_int Try.underlying3) (fs_last rfl (by kernel_rfl) opens_ints)) enc w fuel cs d ps h hlt
  exact ⟨seedL D L, True.intro, D, L, rfl, Nat.le_trans h1 (by unfold maxLen; omega), h2⟩
end Go.Proofs.Ytihddficgpjgpaa.Y
namespace Go.Proofs.Ytihddficgpjgpaa.Y
open Go.RowKit Go.ChangeShapes Go.WideShapes Go.ChangeAt
theorem mn_3 {d : Nat} {t : TypeId} {p : String} {af : Array Edge} {g : Option (Nat × Bool)} {x x2 : Operand} {a b : Int} : Run2 Try.prog ⟨some d, .call { callee := .builtin .min, args := #[x, x2], argTypes := #[3, 3] }, t, p, af, g⟩ x x2 (.int .i64 a) (.int .i64 b) (.int .i64 (min a b)) := fun ev w h1 h2 => by go_simp
/-- Its numbers fit into their bytes. -/
structure Small (a : Lab) : Prop where
  d : 0 ≤ a.d ∧ a.d < 256
  len : a.ps.length < 256
  ps : ∀ p ∈ a.ps, (0 ≤ p.1 ∧ p.1 < 4294967296) ∧ 0 ≤ p.2 ∧ p.2 < 256
theorem u8_id {x : Int} (h : 0 ≤ x ∧ x < 256) : IntKind.u8.wrap x = x := by rw [IntKind.wrap_u8]; omega
end Go.Proofs.Ytihddficgpjgpaa.Y
namespace Go.Proofs.Ytihddficgpjgpaa.Y
open Go.RowKit Go.ChangeShapes Go.WideShapes Go.ChangeAt
theorem own_ne3 {w : World} {B B' n n' size size' : Nat} {e e' : TypeId} {v v' : Value} {xs xs' : List Value} (h : w.ownsRow B e size v n xs) (h' : w.ownsRow B' e' size' v' n' xs') (hne : e' ≠ e) : v.ownBlock = none ∨ v.ownBlock ≠ v'.ownBlock := by
  cases hv : v.ownBlock with
  | none => exact .inl rfl
  | some g =>
    obtain ⟨_, cs, hb⟩ := own_row_blk h hv
    exact .inr (own_ne h' hb hne)
theorem raw_of_ownF {w : World} {F : Cell → Prop} {B : Nat} {v : Value} {d : Int} {ps : List (Int × Int)} (h : w.ownsRow B 90 2 v ps.length (ps.flatMap prE)) (hF : ∀ k : Cell, F k → k.1 < B) : rawL.on w F [.int .i64 d, v] ⟨d, ps⟩ := by
  obtain ⟨A, c, e1, e2, e3⟩ := sl_of_own prF h (F := F) fun x o hx _ hf => by
    have h1 := own_base h hx
    have h2 := hF (x, o) hf
    simp only at h2
    omega
  simp only [List.cons.injEq, and_true] at e1
  exact ⟨[.int .i64 d], [v], rfl, rfl, A, c, by rw [e1], e2, e3⟩
section
variable {U : Prop} {Q : Exit → Act → World → Prop} {N : Nat} {e : Env} {F : Cell → Prop} {a : Act} {w : World} {ops : Array Oper} {rest : List Oper} {o : Oper}
theorem lab_on {f : FuncId} {bs : List Int} {d g k : Nat} {b : Bool} {l : Lab} (A : List Operand) (h : StE U N e F a w) (hF : ∀ o, F (g, o)) (hw : Region.wanted o (yielded ops a.tmps) = true) (hr : CallRun Try.prog o A f) (hd : o.dst = some d) (hdN : decide (d < N) = true)
    (HC : Calls Try.prog f (A.map a.eval).toArray w fun e w' => ∃ v, e = .returned (.agg #[.int .i64 l.d, v]) ∧ w'.ownsRow w.heap.size 90 2 v l.ps.length (l.ps.flatMap prE) ∧ Pk.RdAt w' g bs k b ∧ w.grownBy w' (some g))
    (hQ : ∀ v (hx : ∀ u ∈ [Value.int .i64 l.d, v], u.oneCell' = true) a' w', w'.ownsRow w.heap.size 90 2 v l.ps.length (l.ps.flatMap prE) → Pk.RdAt w' g bs k b → w.grownBy w' (some g) → StE U N ((d, true, .st (Lay.exact [.int .i64 l.d, v] hx) ()) :: e) F a' w' → wpList Try.prog ops Q rest a' w') : wpList Try.prog ops Q (o :: rest) a w := by
  refine call_on f A hw hr (HC.mono ?_)
  rintro _ w' ⟨v, rfl, h0, h1, h2⟩
  refine ⟨_, rfl, ?_⟩
  rw [hd]
  exact hQ v (ex_ok _ h0) _ w' h0 h1 h2 ((h.wroteB h2 hF fun _ => rd_blk h1).put (Below.refl _ _) (by simpa using hdN) ⟨fun _ => ⟨_, rfl, rfl⟩, fun e => by cases e⟩)
end
end Go.Proofs.Ytihddficgpjgpaa.Y
namespace Go.Proofs.Ytihddficgpjgpaa.Y
open Go.RowKit Go.ChangeShapes Go.WideShapes Go.ChangeAt
theorem putL_numL : ∀ {n : Nat} {l : List Int}, l.length = n → Pk.Byt l → Pk.putL n (Pk.numL l) = l := by
  intro n
  induction n with
  | zero => intro l hl _; rw [List.eq_nil_of_length_eq_zero hl]; rfl
  | succ n ih =>
    intro l hl hB
    match l, hl, hB with
    | b :: t, hl, hB =>
      have ht : t.length = n := by simpa using hl
      have hBt : Pk.Byt t := fun x hx => hB x (List.mem_cons_of_mem _ hx)
      have hb := hB b List.mem_cons_self
      have hbd := Pk.numL_bd n t ht hBt
      have gen : ∀ (t : List Int) (x : Int), t.foldl (fun x b => x * 256 + b) x = x * 256 ^ t.length + t.foldl (fun x b => x * 256 + b) 0 := by
        intro t
        induction t with
        | nil => intro x; simp
        | cons c t ih => intro x; rw [List.foldl_cons, List.foldl_cons, ih, ih (0 * 256 + c), List.length_cons, Int.pow_succ]; rw [Int.zero_mul, Int.zero_add, Int.add_mul, Int.mul_assoc, Int.mul_comm 256]; omega
      have e : Pk.numL (b :: t) = b * 256 ^ n + Pk.numL t := by
        show (b :: t).foldl (fun x b => x * 256 + b) 0 = _
        rw [List.foldl_cons, gen t, ht, Int.zero_mul, Int.zero_add]
        rfl
      have hp : (0 : Int) < 256 ^ n := Int.pow_pos (by omega)
      show Pk.numL (b :: t) / 256 ^ n % 256 :: Pk.putL n (Pk.numL (b :: t)) = b :: t
      have e1 : Pk.numL (b :: t) / 256 ^ n = b := by
        rw [e, Int.add_comm, Int.add_mul_ediv_right _ _ (by omega), Int.ediv_eq_zero_of_lt hbd.1 hbd.2]; omega
      have e2 : Pk.putL n (Pk.numL (b :: t)) = Pk.putL n (Pk.numL t) := by
        rw [e]
        have : ∀ (k : Nat), k ≤ n → Pk.putL k (b * 256 ^ n + Pk.numL t) = Pk.putL k (Pk.numL t) := by
          intro k
          induction k with
          | zero => intro _; rfl
          | succ k ihk =>
            intro hk
            show (b * 256 ^ n + Pk.numL t) / 256 ^ k % 256 :: Pk.putL k (b * 256 ^ n + Pk.numL t) = Pk.numL t / 256 ^ k % 256 :: Pk.putL k (Pk.numL t)
            rw [ihk (by omega)]
            have h2 : (256 : Int) ^ n = 256 ^ (n - k - 1) * 256 * 256 ^ k := by rw [← Int.pow_succ, ← Int.pow_add]; congr 1; omega
            have hpk : (256 : Int) ^ k ≠ 0 := Int.pow_ne_zero (by omega)
            rw [h2, ← Int.mul_assoc, Int.add_comm, Int.add_mul_ediv_right _ _ hpk, ← Int.mul_assoc, Int.add_mul_emod_self_right]
        exact this n (Nat.le_refl _)
      rw [e1, e2, ih ht hBt]
      congr 1
      omega
theorem nx_ok {bs : List Int} (hB : Pk.Byt bs) {s : Nat × Bool} {n : Nat} (h : (nx bs s n).2.2 = false) : s.2 = false ∧ s.1 + n ≤ bs.length ∧ (nx bs s n).2 = (s.1 + n, false) ∧ bs.drop s.1 = Pk.putL n (nx bs s n).1 ++ bs.drop (s.1 + n) := by
  by_cases hc : s.2 = false ∧ s.1 + n ≤ bs.length
  · have e : nx bs s n = (Pk.numL ((bs.drop s.1).take n), (s.1 + n, false)) := by unfold nx; rw [if_pos hc]
    rw [e]
    refine ⟨hc.1, hc.2, rfl, ?_⟩
    rw [putL_numL (by simp; omega) (byt_take (byt_drop hB _) _), ← List.drop_drop, List.take_append_drop]
  · unfold nx at h; rw [if_neg hc] at h; cases h
theorem nx_1 {bs : List Int} (hB : Pk.Byt bs) {s : Nat × Bool} (_h : (nx bs s 1).2.2 = false) : Pk.putL 1 (nx bs s 1).1 = [IntKind.u8.wrap (nx bs s 1).1] := by
  have := nx1 hB s
  show [(nx bs s 1).1 / 256 ^ 0 % 256] = _
  rw [u8_id this]
  simp
  omega
theorem nx_le {bs : List Int} {s : Nat × Bool} (hs : s.1 ≤ bs.length) (n : Nat) : (nx bs s n).2.1 ≤ bs.length := by
  unfold nx
  split
  · rename_i h; exact h.2
  · exact hs
theorem rdP_ok {bs : List Int} (hB : Pk.Byt bs) : ∀ {m : Nat} {s : Nat × Bool} {acc : List (Int × Int)}, s.1 ≤ bs.length → (rdP bs m s acc).2.2 = false → s.2 = false ∧ ∃ ps, (rdP bs m s acc).1 = acc ++ ps ∧ ps.length = m ∧ (rdP bs m s acc).2.1 ≤ bs.length ∧ bs.drop s.1 = ps.flatMap pairB ++ bs.drop (rdP bs m s acc).2.1
  | 0, s, acc, hs, h => ⟨h, [], by simp [rdP], rfl, hs, rfl⟩
  | m + 1, s, acc, hs, h => by
    cases hb : s.2 with
    | true => rw [rdP_bad hb] at h; rw [hb] at h; cases h
    | false =>
      rw [rdP_go hb] at h ⊢
      have hs2 := nx_le (nx_le hs 4) 1
      obtain ⟨h1, ps, h2, h3, h4, h5⟩ := rdP_ok hB hs2 h
      obtain ⟨g1, g2, g3, g4⟩ := nx_ok hB h1
      obtain ⟨f1, f2, f3, f4⟩ := nx_ok hB g1
      refine ⟨rfl, ((nx bs s 4).1, (nx bs (nx bs s 4).2 1).1) :: ps, by rw [h2, List.append_assoc]; rfl, by simp [h3], h4, ?_⟩
      have e4 : (nx bs s 4).2.1 = s.1 + 4 := by rw [f3]
      have e5 : (nx bs (nx bs s 4).2 1).2.1 = s.1 + 4 + 1 := by rw [g3, f3]
      generalize rdP bs m (nx bs (nx bs s 4).2 1).2 (acc ++ [((nx bs s 4).1, (nx bs (nx bs s 4).2 1).1)]) = R at h2 h4 h5 ⊢
      rw [nx_1 hB h1, e4] at g4
      rw [e5] at h5
      have b4 := nx4 hB s
      have ep : pairB ((nx bs s 4).1, (nx bs (nx bs s 4).2 1).1) = Pk.putL 4 (nx bs s 4).1 ++ [IntKind.u8.wrap (nx bs (nx bs s 4).2 1).1] := by
        unfold pairB
        rw [show IntKind.u64.wrap (nx bs s 4).1 = (nx bs s 4).1 by rw [IntKind.wrap_u64]; omega]
      rw [f4, g4, h5, List.flatMap_cons, ep]
      simp only [List.append_assoc]
theorem labX_ok {bs : List Int} (hB : Pk.Byt bs) {s : Nat × Bool} (hs : s.1 ≤ bs.length) (h : (labX bs s).2.2 = false) : s.2 = false ∧ rightB (labX bs s).1 = true ∧ (labX bs s).1.ps.length ≤ 12 ∧ (labX bs s).2.1 ≤ bs.length ∧ bs.drop s.1 = labB (labX bs s).1 ++ bs.drop (labX bs s).2.1 := by
  unfold labX at h ⊢
  split at h
  · cases h
  · rename_i hc
    rw [if_neg hc]
    simp only
    have h1 : (rdP bs (nx bs (nx bs s 1).2 1).1.toNat (labS bs s) []).2.2 = false := by
      cases hh : (rdP bs (nx bs (nx bs s 1).2 1).1.toNat (labS bs s) []).2.2 with
      | true => exact absurd (.inl hh) hc
      | false => rfl
    have h2 : rightB ⟨(nx bs s 1).1, (rdP bs (nx bs (nx bs s 1).2 1).1.toNat (labS bs s) []).1⟩ = true := by
      cases hh : rightB ⟨(nx bs s 1).1, (rdP bs (nx bs (nx bs s 1).2 1).1.toNat (labS bs s) []).1⟩ with
      | false => exact absurd (.inr hh) hc
      | true => rfl
    have hs1 : (nx bs s 1).2.1 ≤ bs.length := by
      unfold nx; split
      · rename_i h2; exact h2.2
      · exact hs
    have hs2 : (nx bs (nx bs s 1).2 1).2.1 ≤ bs.length := by
      rw [nx]; split
      · rename_i h2; exact h2.2
      · exact hs1
    have hsL : (labS bs s).1 ≤ bs.length := by unfold labS; split <;> exact hs2
    obtain ⟨h3, ps, h4, h5, h6, h7⟩ := rdP_ok hB hsL h1
    have hn : ¬ 12 < (nx bs (nx bs s 1).2 1).1 := fun hn => by unfold labS at h3; rw [if_pos hn] at h3; cases h3
    have eS : labS bs s = (nx bs (nx bs s 1).2 1).2 := by unfold labS; rw [if_neg hn]
    rw [eS] at h3 h7
    obtain ⟨g1, g2, g3, g4⟩ := nx_ok hB h3
    obtain ⟨f1, f2, f3, f4⟩ := nx_ok hB g1
    rw [nx_1 hB h3] at g4
    rw [nx_1 hB g1] at f4
    have hb := nx1 hB (nx bs s 1).2
    rw [List.nil_append] at h4
    have hl : (ps.length : Int) = (nx bs (nx bs s 1).2 1).1 := by rw [h5]; omega
    refine ⟨f1, h2, by rw [h4]; omega, h6, ?_⟩
    rw [← eS] at h7
    rw [h4] at *
    rw [f4, show s.1 + 1 = (nx bs s 1).2.1 by rw [f3], g4, show (nx bs s 1).2.1 + 1 = (labS bs s).1 by rw [eS, g3], h7]
    unfold labB
    simp only [List.cons_append, List.nil_append, hl]
def labsB (ls : List Lab) : List Int := ls.flatMap labB
end Go.Proofs.Ytihddficgpjgpaa.Y
namespace Go.Proofs.Ytihddficgpjgpaa.Y
open Go.RowKit Go.ChangeShapes Go.WideShapes Go.ChangeAt
section
variable {d : Nat} {t : TypeId} {p : String} {af : Array Edge} {g : Option (Nat × Bool)} {x x2 : Operand}
theorem b_neq_47 {a b : Int} : Run2 Try.prog ⟨some d, .binOp .neq 47 x x2 47, t, p, af, g⟩ x x2 (.int .i64 a) (.int .i64 b) (.bool (a != b)) := fun ev w h1 h2 => by go_simp
theorem b_eql_47 {a b : Int} : Run2 Try.prog ⟨some d, .binOp .eql 47 x x2 47, t, p, af, g⟩ x x2 (.int .i64 a) (.int .i64 b) (.bool (a == b)) := fun ev w h1 h2 => by go_simp
end
theorem labsB_byt (ls : List Lab) : Pk.Byt (labsB ls) := fun x hx => by
  obtain ⟨l, _, hx⟩ := List.mem_flatMap.1 hx
  exact byt_lab l x hx
end Go.Proofs.Ytihddficgpjgpaa.Y
namespace Go.Proofs.Ytihddficgpjgpaa.Y
open Go.RowKit Go.ChangeShapes Go.WideShapes Go.ChangeAt
theorem drop_ok {bs p r : List Int} {k : Nat} (h : bs.drop k = p ++ r) (hp : 0 < p.length) : k + p.length ≤ bs.length ∧ (bs.drop k).take p.length = p ∧ bs.drop (k + p.length) = r := by
  have h1 := congrArg List.length h
  rw [List.length_drop, List.length_append] at h1
  refine ⟨by omega, by rw [h, List.take_left], by rw [← List.drop_drop, h, List.drop_left]⟩
theorem nx_put {bs r : List Int} {k n : Nat} {x : Int} (h : bs.drop k = Pk.putL n x ++ r) (hn : 0 < n) (hx : 0 ≤ x ∧ x < 256 ^ n) : nx bs (k, false) n = (x, (k + n, false)) ∧ bs.drop (k + n) = r := by
  obtain ⟨h1, h2, h3⟩ := drop_ok h (by rw [Pk.putL_length]; exact hn)
  rw [Pk.putL_length] at h1 h2 h3
  refine ⟨?_, h3⟩
  unfold nx
  rw [if_pos ⟨rfl, h1⟩, h2, Pk.numL_putL, Int.emod_eq_of_lt hx.1 hx.2]
theorem nx_put1 {bs r : List Int} {k : Nat} {x : Int} (h : bs.drop k = IntKind.u8.wrap x :: r) (hx : 0 ≤ x ∧ x < 256) : nx bs (k, false) 1 = (x, (k + 1, false)) ∧ bs.drop (k + 1) = r := by
  have e : Pk.putL 1 x = [IntKind.u8.wrap x] := by
    show [x / 256 ^ 0 % 256] = _
    rw [u8_id hx]
    simp
    omega
  exact nx_put (n := 1) (by rw [e]; exact h) (by decide) hx
theorem rdP_put {bs : List Int} : ∀ {ps : List (Int × Int)} {k : Nat} {acc : List (Int × Int)} {r : List Int}, (∀ p ∈ ps, (0 ≤ p.1 ∧ p.1 < 4294967296) ∧ 0 ≤ p.2 ∧ p.2 < 256) → bs.drop k = ps.flatMap pairB ++ r → rdP bs ps.length (k, false) acc = (acc ++ ps, (k + 5 * ps.length, false)) ∧ bs.drop (k + 5 * ps.length) = r
  | [], k, acc, r, _, h => ⟨by simp [rdP], h⟩
  | p :: ps, k, acc, r, hs, h => by
    have hp := hs p List.mem_cons_self
    have e : IntKind.u64.wrap p.1 = p.1 := by rw [IntKind.wrap_u64]; omega
    have h' : bs.drop k = Pk.putL 4 p.1 ++ (IntKind.u8.wrap p.2 :: (ps.flatMap pairB ++ r)) := by
      rw [h, List.flatMap_cons, pairB, e]
      simp only [List.append_assoc, List.cons_append, List.nil_append]
    obtain ⟨h1, h2⟩ := nx_put h' (by decide) hp.1
    obtain ⟨h3, h4⟩ := nx_put1 h2 hp.2
    rw [List.length_cons, rdP_go rfl, h1]
    simp only
    rw [h3]
    simp only
    obtain ⟨h5, h6⟩ := rdP_put (acc := acc ++ [(p.1, p.2)]) (fun q hq => hs q (List.mem_cons_of_mem _ hq)) h4
    rw [h5, show k + 5 * (ps.length + 1) = k + 4 + 1 + 5 * ps.length by omega]
    exact ⟨by rw [List.append_assoc]; rfl, h6⟩
/-- A label that its bytes tell. -/
structure Tell (l : Lab) : Prop where
  small : Small l
  right : rightB l = true
  len : l.ps.length ≤ 12
theorem labX_put {bs r : List Int} {k : Nat} {l : Lab} (hl : Tell l) (h : bs.drop k = labB l ++ r) : labX bs (k, false) = (l, (k + (labB l).length, false)) ∧ bs.drop (k + (labB l).length) = r := by
  have h' : bs.drop k = IntKind.u8.wrap l.d :: (IntKind.u8.wrap (l.ps.length : Int) :: (l.ps.flatMap pairB ++ r)) := by
    rw [h, labB]
    simp only [List.cons_append, List.nil_append]
  have hlen := hl.len
  obtain ⟨h1, h2⟩ := nx_put1 h' hl.small.d
  obtain ⟨h3, h4⟩ := nx_put1 h2 (show (0 : Int) ≤ (l.ps.length : Int) ∧ (l.ps.length : Int) < 256 by omega)
  obtain ⟨h5, h6⟩ := rdP_put (acc := []) hl.small.ps h4
  have eS : labS bs (k, false) = (k + 1 + 1, false) := by
    unfold labS
    rw [h1]
    simp only
    rw [h3]
    simp only
    rw [if_neg (by omega)]
  have eN : (nx bs (nx bs (k, false) 1).2 1).1.toNat = l.ps.length := by
    rw [h1]; simp only; rw [h3]; simp
  rw [labB_len, show k + (2 + 5 * l.ps.length) = k + 1 + 1 + 5 * l.ps.length by omega]
  refine ⟨?_, h6⟩
  unfold labX
  rw [eN, eS, h5, h1]
  simp only [List.nil_append]
  rw [if_neg (by rw [show (⟨l.d, l.ps⟩ : Lab) = l from rfl, hl.right]; simp)]
theorem tell_of {l : Lab} (h : rightB l = true) (h12 : l.ps.length ≤ 12) : Tell l := by
  have h0 := h
  unfold rightB at h
  simp only [Bool.and_eq_true, decide_eq_true_eq] at h
  obtain ⟨h1, h2, h3, h4⟩ := h
  obtain ⟨g1, g2⟩ := rightP_good l.d h4
  exact ⟨⟨by omega, by omega, fun p hp => by
    have := g2 p hp
    have := Rise.lt g1 p hp
    omega⟩, h0, h12⟩
end Go.Proofs.Ytihddficgpjgpaa.Y
namespace Go.Proofs.Ytihddficgpjgpaa.Y
open Go.RowKit Go.ChangeShapes Go.WideShapes Go.ChangeAt
theorem f37b {U : Prop} {bs : List Int} {a : Lab} {n : Nat} (hb : bs.length ≤ 100000) (hn : n ≤ 100000) : Fn U Try.prog 37 [.by bs, .lb a n] (.by (bs ++ labB a)) := fn_any (fn2 fun w F v1 v2 h1 h2 hF => by
  have hl := (lab_in h2).2.len
  exact f37 (bs := bs) (a := a) hb (by omega) w F [v1, v2] rfl (fun i v y e1 e2 => by
    match i, e1, e2 with
    | 0, e1, e2 => simp at e1 e2; subst e1 e2; exact h1
    | 1, e1, e2 => simp at e1 e2; subst e1 e2; exact lab_raw h2) hF)
theorem StE.loose {U : Prop} {N : Nat} {e : Env} {F : Cell → Prop} {a : Act} {w : World} (h : StE U N e F a w) : StE False N e F a w := ⟨h.size, h.defers, ⟨h.fok.lt, fun h => h.elim⟩, h.known⟩
end Go.Proofs.Ytihddficgpjgpaa.Y
