/- Ylabr: labels of readers: what they are -/
import Derived.Test.YtihddficgpjgpaaYjoin
import Derived.Test.YtihddficgpjgpaaYcall
namespace Go.Proofs.Ytihddficgpjgpaa.Y
open Go.RowKit Go.ChangeShapes Go.WideShapes Go.ChangeAt

/-- Values that are known outright stay so, whatever is written. -/
def ValsB (e : Env) : Env → Prop
  | [] => True
  | (s, k) :: t => (∃ x, k = (true, .val x) ∧ e.lookup s = some k) ∧ ValsB e t
theorem vv {e e2 : Env} (s : Nat) {x : Value} (h : e.lookup s = some (true, .val x)) (hr : ValsB e e2) : ValsB e ((s, true, .val x) :: e2) := ⟨⟨x, rfl, h⟩, hr⟩
theorem vn {e : Env} : ValsB e [] := True.intro
theorem StE.vals {U : Prop} {N : Nat} {e e2 : Env} {F F' : Cell → Prop} {a : Act} {w w' : World} (h : StE U N e F a w) (hF : FOK U F' w') (hv : ValsB e e2) : StE U N e2 F' a w' := by
  refine ⟨h.size, h.defers, hF, fun s k hk => ?_⟩
  induction e2 with
  | nil => cases hk
  | cons p t ih =>
    obtain ⟨s', k'⟩ := p
    rw [List.lookup_cons] at hk
    cases hs : s == s' with
    | false => rw [hs] at hk; exact ih hv.2 hk
    | true =>
      rw [hs] at hk
      simp at hk hs
      subst hs hk
      obtain ⟨x, rfl, hl⟩ := hv.1
      exact ⟨fun _ => h.get s hl, fun e => by cases e⟩
/-- Cells known outright. -/
def Lay.exact (cs : List Value) (h : ∀ u ∈ cs, u.oneCell' = true) : Lay Unit := ⟨cs.length, fun _ _ c _ => c = cs, by rintro _ _ _ _ rfl; rfl, by rintro _ _ _ _ rfl; exact h, fun h _ _ => h⟩
theorem grown_far {a w w' : World} {g : Nat} {r : Option Nat} (h : a.grownBy w (some g)) (hg : w.grownBy w' r) (hr : ∀ x, r = some x → a.heap.size ≤ x) : a.grownBy w' (some g) := ⟨hg.os.trans h.os, hg.tape.trans h.tape, hg.output.trans h.output, Nat.le_trans h.size hg.size, fun i hi hne => (hg.block i (Nat.lt_of_lt_of_le hi h.size) (fun e => by have := hr i e.symm; omega)).trans (h.block i hi hne)⟩
theorem fok_at {w : World} {g : Nat} (h : g < w.heap.size) : FOK False (AtB g) w := ⟨fun k hk => by unfold AtB at hk; rw [hk]; exact h, fun u => u.elim⟩
section
variable {U : Prop} {P : Program} {Q : Exit → Act → World → Prop} {N : Nat} {e : Env} {F : Cell → Prop} {a : Act} {w : World} {ops : Array Oper} {rest : List Oper} {o : Oper}
theorem alloc_on {d : Nat} {u : TypeId} {z : Array Value} (hu : ¬ U) (h : StE U N e F a w) (hd : o.dst = some d) (hdN : decide (d < N) = true) (hgd : o.guard = none) (hr : ∀ (ev : Operand → Value) (w : World), (execOp ev o).run P w = .ok (.value (.pointer (some ⟨w.heap.size, 0, none⟩))) (w.alloc (.cells z u)))
    (hQ : ∀ g a' w', Blk w' g u z → w.heap.size ≤ g → Below w.heap.size w w' → StE U N ((d, true, .val (.pointer (some ⟨g, 0, none⟩))) :: e) F a' w' → wpList P ops Q rest a' w') : wpList P ops Q (o :: rest) a w := by
  have hb : Below w.heap.size w (w.alloc (.cells z u)) := (Below.refl _ _).alloc (Nat.le_refl _) _
  have hB := Blk.new w u z
  refine wpList_plain hgd fun K hK => ?_
  unfold Oper.wp
  rw [hr]
  refine hK _ _ ?_
  rw [hd]
  exact hQ _ _ _ hB (Nat.le_refl _) hb ((h.freshV hb (Nat.le_refl _) hB.lt (fun u => absurd u hu) (by simpa using hdN)).less fun _ h => .inl h)
theorem store_on {gq : Nat} {T T' : TypeId} {z cs : Array Value} {e2 : Env} (t s : Nat) (h : StE U N e F a w) (h1 : o.op = .store T (.tmp t) (.tmp s)) (h2 : o.dst = none) (h3 : o.guard = none) (hx : a.tmps.getD s undef = .agg cs)
    (hg : e.lookup t = some (true, .val (.pointer (some ⟨gq, 0, none⟩)))) (hB : Blk w gq T' z) (hz : z.size = cs.size) (h4 : (P.info? T).map (·.size) = some cs.size) (h5 : cs.all (fun u => u.oneCell') = true) (hF : FOK U F w) (hu : ¬ U) (hv : ValsB e e2)
    (hQ : ∀ a' w', Blk w' gq T' cs → w.grownBy w' (some gq) → StE U N e2 F a' w' → wpList P ops Q rest a' w') : wpList P ops Q (o :: rest) a w := by
  refine wpList_store_rowTo h3 T (.tmp t) (.tmp s) h1 h2 gq cs (h.get t hg) hx T' z hB h4 hz h5 ?_
  refine hQ _ _ (setRow_heap w gq z cs T' (0, 0) hB) ⟨rfl, rfl, rfl, by rw [size_setRow]; exact Nat.le_refl _, fun k _ hk => setRow_other w gq k cs (fun e => hk (by rw [e]))⟩ (h.vals ⟨fun k hk => by rw [size_setRow]; exact hF.lt k hk, fun u => absurd u hu⟩ hv)
end
theorem then_ret {next : Act → World → Prop} {Q : Exit → Act → World → Prop} {a : Act} {w : World} (h : Q .ret a w) : Exit.then next Q .ret a w := h
theorem all_arr {l : List Value} (h : ∀ u ∈ l, u.oneCell' = true) : (l.toArray).all (fun u => u.oneCell') = true := by simpa using h
theorem with_st {P : Program} {U : Prop} {Q : Exit → Act → World → Prop} {N : Nat} {e : Env} {F : Cell → Prop} {a : Act} {w : World} {ops : Array Oper} {rest : List Oper} (h : StE U N e F a w) (k : StE U N e F a w → wpList P ops Q rest a w) : wpList P ops Q rest a w := k h
theorem rd_off {P : Program} {U : Prop} {Q : Exit → Act → World → Prop} {N : Nat} {e : Env} {F : Cell → Prop} {a : Act} {w : World} {ops : Array Oper} {rest : List Oper} {o : Oper} {d : Nat} (y : Sym) (h : StE U N e F a w) (hw : Region.wanted o (yielded ops a.tmps) = false) (hd : o.dst = some d) (hdN : decide (d < N) = true)
    (hQ : ∀ a', StE U N ((d, false, y) :: e) F a' w → wpList P ops Q rest a' w) : wpList P ops Q (o :: rest) a w := by
  refine wpList_off hw ?_
  rw [hd]
  exact hQ _ (h.put (Below.refl _ _) (by simpa using hdN) ⟨(fun e => by cases e), fun _ => rfl⟩)
section
variable {d : Nat} {t : TypeId} {p : String} {af : Array Edge} {g : Option (Nat × Bool)} {x x2 : Operand}
theorem cv_23_3 {a : Int} : Run1 Try.prog ⟨some d, .convert 23 3 x, t, p, af, g⟩ x (.int .u64 a) (.int .i64 (IntKind.i64.wrap a)) := fun ev w h1 => by go_simp
theorem cv_23_70 {a : Int} : Run1 Try.prog ⟨some d, .convert 23 70 x, t, p, af, g⟩ x (.int .u64 a) (.int .u32 (IntKind.u32.wrap a)) := fun ev w h1 => by go_simp
theorem bd39 {a : Int} : ∀ (ev : Operand → Value) (w : World), ev x = .int .i64 a → (execOp ev ⟨some d, .build 39 #[(0, x)], t, p, af, g⟩).run Try.prog w = .ok (.value (.agg #[.int .i64 a, .slice none 0 0])) w := fun ev w h1 => by go_simp
theorem bd90 {a b : Int} : ∀ (ev : Operand → Value) (w : World), ev x = .int .u32 a → ev x2 = .int .i64 b → (execOp ev ⟨some d, .build 90 #[(0, x), (1, x2)], t, p, af, g⟩).run Try.prog w = .ok (.value (.agg #[.int .u32 a, .int .i64 b])) w := fun ev w h1 h2 => by go_simp
theorem bz39 : DoneRun Try.prog ⟨some d, .build 39 #[], t, p, af, g⟩ (.agg #[.int .i64 0, .slice none 0 0]) := fun ev w h => by go_simp
theorem bs_37 : BsRun Try.prog ⟨some d, .buildSlice 37 1 #[(0, x)], t, p, af, g⟩ x 2 90 := fun ev w cs h1 h2 => by
  obtain ⟨cs⟩ := cs
  match cs, h2 with
  | [a, b], _ => go_simp
end
abbrev prE (p : Int × Int) : List Value := [.int .u32 p.1, .int .i64 p.2]
theorem prF : Flat pairL prE := fun w F cs x => Flat.pr (Flat.int .u32) (Flat.int .i64) w F cs x
section
variable {U : Prop} {ops : Array Oper} {Q : Exit → Act → World → Prop} {N d : Nat} {e : Env} {t : TypeId} {p : String} {af : Array Edge} {g : Option (Nat × Bool)} {c : Bool} {x x2 : Operand}
theorem p_bd39 {n : Int} (hg : GdE ops e g c) (hx : OpdE e c x (.int .i64 n)) : Pays U Try.prog ops Q N e ⟨some d, .build 39 #[(0, x)], t, p, af, g⟩ (c, .val (.agg #[.int .i64 n, .slice none 0 0])) :=
  pVal hg fun e a w F hk => ⟨_, bd39 _ w (hx a w F (fun s hs => hk s (by simp [Op.operands, hs])) e), rfl⟩
theorem p_bd90 {n m : Int} (hg : GdE ops e g c) (hx : OpdE e c x (.int .u32 n)) (hx2 : OpdE e c x2 (.int .i64 m)) : Pays U Try.prog ops Q N e ⟨some d, .build 90 #[(0, x), (1, x2)], t, p, af, g⟩ (c, .st pairL (n, m)) :=
  pVal hg fun e a w F hk => ⟨_, bd90 _ w (hx a w F (fun s hs => hk s (by simp [Op.operands, hs])) e) (hx2 a w F (fun s hs => hk s (by simp [Op.operands, hs])) e), prE (n, m), rfl, (prF _ _ _ _).2 rfl⟩
end
/-- What a reader that stands somewhere gives next, and where it stands then. -/
def nx (bs : List Int) (s : Nat × Bool) (n : Nat) : Int × (Nat × Bool) := if s.2 = false ∧ s.1 + n ≤ bs.length then (Pk.numL ((bs.drop s.1).take n), (s.1 + n, false)) else (0, (s.1, true))
def rdP (bs : List Int) : Nat → Nat × Bool → List (Int × Int) → List (Int × Int) × (Nat × Bool)
  | 0, s, acc => (acc, s)
  | m + 1, s, acc => if s.2 = true then (acc, s) else rdP bs m (nx bs (nx bs s 4).2 1).2 (acc ++ [((nx bs s 4).1, (nx bs (nx bs s 4).2 1).1)])
def labS (bs : List Int) (s : Nat × Bool) : Nat × Bool := if 12 < (nx bs (nx bs s 1).2 1).1 then ((nx bs (nx bs s 1).2 1).2.1, true) else (nx bs (nx bs s 1).2 1).2
def labX (bs : List Int) (s : Nat × Bool) : Lab × (Nat × Bool) :=
  if (rdP bs (nx bs (nx bs s 1).2 1).1.toNat (labS bs s) []).2.2 = true ∨ rightB ⟨(nx bs s 1).1, (rdP bs (nx bs (nx bs s 1).2 1).1.toNat (labS bs s) []).1⟩ = false then (⟨0, []⟩, ((rdP bs (nx bs (nx bs s 1).2 1).1.toNat (labS bs s) []).2.1, true))
  else (⟨(nx bs s 1).1, (rdP bs (nx bs (nx bs s 1).2 1).1.toNat (labS bs s) []).1⟩, (rdP bs (nx bs (nx bs s 1).2 1).1.toNat (labS bs s) []).2)
theorem cNumS {w : World} {g : Nat} {bs : List Int} {s : Nat × Bool} (h : Pk.RdAt w g bs s.1 s.2) (hB : Pk.Byt bs) (hm : bs.length ≤ 1000000) {n : Nat} (h1 : 1 ≤ n) (h8 : n ≤ 8) : Calls Try.prog 32 #[.pointer (some ⟨g, 0, none⟩), .int .i64 n] w fun e w' => e = .returned (.int .u64 (nx bs s n).1) ∧ Pk.RdAt w' g bs (nx bs s n).2.1 (nx bs s n).2.2 ∧ w.grownBy w' (some g) := by
  obtain ⟨k, b⟩ := s
  unfold nx
  by_cases hc : b = false ∧ k + n ≤ bs.length
  · rw [if_pos hc]
    obtain ⟨rfl, hc⟩ := hc
    exact cNum h hB hm hc h1 h8
  · rw [if_neg hc]
    have hl := h.at_le
    refine cNumF h hm (n := (n : Int)) (by omega) (by omega) ?_
    simp only at hc hl ⊢
    cases b with
    | true => exact .inl rfl
    | false => right; simp at hc; omega
theorem nx_bd {bs : List Int} (hB : Pk.Byt bs) (s : Nat × Bool) (n : Nat) : 0 ≤ (nx bs s n).1 ∧ (nx bs s n).1 < 256 ^ n := by
  unfold nx
  split
  · rename_i h
    exact Pk.numL_bd n _ (by simp; omega) (byt_take (byt_drop hB _) _)
  · exact ⟨Int.le_refl _, Int.pow_pos (by omega)⟩
theorem nx1 {bs : List Int} (hB : Pk.Byt bs) (s : Nat × Bool) : 0 ≤ (nx bs s 1).1 ∧ (nx bs s 1).1 < 256 := nx_bd hB s 1
theorem nx4 {bs : List Int} (hB : Pk.Byt bs) (s : Nat × Bool) : 0 ≤ (nx bs s 4).1 ∧ (nx bs s 4).1 < 4294967296 := nx_bd hB s 4
/-- What is known at a round's beginning. -/
abbrev LXE (g g2 g3 n i : Nat) : Env := [(5, true, .int .i64 (i : Int)), (0, true, .val (.pointer (some ⟨g, 0, none⟩))), (2, true, .val (.pointer (some ⟨g2, 0, none⟩))), (3, true, .val (.pointer (some ⟨g3, 0, none⟩))), (4, true, .int .i64 (n : Int))]
structure LXK (w : World) (g g2 g3 n : Nat) (d : Int) (bs : List Int) (s0 : Nat × Bool) (i : Nat) (v : Value) (ps : List (Int × Int)) (s : Nat × Bool) (wr : World) : Prop where
  rd : Pk.RdAt wr g bs s.1 s.2
  k2 : Blk wr g2 39 #[.int .i64 0, .slice none 0 0]
  k3 : Blk wr g3 39 #[.int .i64 d, v]
  own : wr.ownsRow w.heap.size 90 2 v ps.length (ps.flatMap prE)
  eq : rdP bs (n - i) s ps = rdP bs n s0 []
  len : ps.length = i
  le : i ≤ n
  z : w.grownBy wr (some g)
def LXI (w : World) (g g2 g3 n : Nat) (d : Int) (bs : List Int) (s0 : Nat × Bool) (i : Nat) (a : Act) (wr : World) : Prop := ∃ v ps s, LXK w g g2 g3 n d bs s0 i v ps s wr ∧ StE False 52 (LXE g g2 g3 n i) (AtB g) a wr
theorem own_notAt {w : World} {B g n : Nat} {E : TypeId} {k : Nat} {v : Value} {xs : List Value} (h : w.ownsRow B E k v n xs) (hg : g < B) : ∀ x o, v.ownBlock = some x → ¬ AtB g (x, o) := fun x o hx hf => by
  have := own_base h hx
  unfold AtB at hf
  simp only at hf
  omega
theorem own_grown {w w' : World} {B E k n g : Nat} {v : Value} {xs : List Value} (h : w.ownsRow B E k v n xs) (hg : w.grownBy w' (some g)) (hlt : g < B) : w'.ownsRow B E k v n xs := h.kept hg (by
  cases hb : v.ownBlock with
  | none => exact .inl rfl
  | some x => exact .inr fun e => by injection e with e; have := own_base h hb; omega)
section
variable {U : Prop} {P : Program} {Q : Exit → Act → World → Prop} {N : Nat} {e e2 : Env} {F : Cell → Prop} {a : Act} {w : World} {ops : Array Oper} {rest : List Oper} {o : Oper}
theorem call_wp {R : Act → World → Prop} (f : FuncId) (A : List Operand) (hg : o.guard = none) (hr : CallRun P o A f) (hc : Calls P f (A.map a.eval).toArray w (fun e w' => ∃ v, e = .returned v ∧ R (a.put o.dst v) w')) : if Region.wanted o (yielded ops a.tmps) then o.wp P a w R Q else R (a.put o.dst undef) w := by
  rw [if_pos (by simp [Region.wanted, hg])]
  unfold Oper.wp
  rw [hr, Oper.upon_enter]
  exact hc.mono (by rintro _ w' ⟨v, rfl, h⟩; exact h)
theorem app_on {d B E T n size bytes : Nat} {v : Value} {xs cs : List Value} {y : Sym} {i : TypeInfo} {z : Value} (sa sb : Nat) (hu : ¬ U) (h : StE U N e F a w) (ho : o.op = .call { callee := .builtin .append, args := #[.tmp sa, .tmp sb], argTypes := #[T, T] }) (hd : o.dst = some d) (hdN : decide (d < N) = true) (hgd : o.guard = none)
    (ht : P.underlying T = some (.slice E)) (hi : P.info? E = some i) (hz : i.zero = some z) (hsize : i.size = size) (hby : i.bytes = bytes) (hzs : z.cells.size = size) (hsz : 0 < size)
    (hown : w.ownsRow B E size v n xs) (hsa : a.tmps.getD sa undef = v) (hsb : e.lookup sb = some (true, .both (.lit E cs) y)) (hl : cs.length = 1 * size) (h1 : ∀ u ∈ cs, u.oneCell' = true) (h63 : n + 1 ≤ maxLen) (hbytes : (n + 1) * bytes ≤ 140737488355328) (hB : B ≤ w.heap.size) (hv : ValsB e e2)
    (hQ : ∀ v' a' w', w'.ownsRow B E size v' (n + 1) (xs ++ cs) → w.grownBy w' v.ownBlock → StE U N ((d, true, .val v') :: e2) F a' w' → wpList P ops Q rest a' w') : wpList P ops Q (o :: rest) a w := by
  have ea : a.eval (.tmp sa) = v := hsa
  obtain ⟨gl, el, hBl, _⟩ := (h.get sb hsb).1
  have hx : a.eval (.tmp sb) = .slice (some ⟨gl, 0, none⟩) 1 1 := el
  have hnews : ∀ j u, cs[j]? = some u → w.cell? ((⟨gl, 0, none⟩ : Addr).add j) = some u := fun j u hj => by
    rw [add_none, hBl.cell, ← hj]; simp
  refine wpList_plain hgd fun K hK => ?_
  obtain ⟨v', w', hr, h2, h3, _, _⟩ := run_append_own_at (P := P) w B T o.type E i z size bytes ht hi hz hsize hby hzs hsz v n _ hown ⟨gl, 0, none⟩ 1 1 _ hl hnews h1 h63 hbytes hB
  have hdN' : d < N := by simpa using hdN
  have hs := h.vals (F' := F) (w' := w') ⟨fun k hk => Nat.lt_of_lt_of_le (h.fok.lt k hk) h3.size, fun u => absurd u hu⟩ hv
  unfold Oper.wp execOp
  simp only [ho, resolve, invoke, builtin, Sem.run_bind, Sem.run_pure, Result.andThen_ok, List.map_toArray, List.map_cons, List.map_nil, ea, hx, hr]
  refine hK _ _ ?_
  rw [hd]
  exact hQ v' _ w' h2 h3 (hs.put (Below.refl _ _) hdN' ⟨fun _ => rfl, fun e => by cases e⟩)
/-- One cell of a block of one's own is stored. -/
theorem cell_on {gq k : Nat} {T T' : TypeId} {z : Array Value} {v : Value} (t s : Nat) (hu : ¬ U) (h : StE U N e F a w) (h1 : o.op = .store T (.tmp t) (.tmp s)) (h2 : o.dst = none) (h3 : o.guard = none) (hx : e.lookup s = some (true, .val v)) (hg : e.lookup t = some (true, .val (.pointer (some ⟨gq, k, none⟩)))) (hB : Blk w gq T' z) (hk : k < z.size) (hvc : v.cells = #[v]) (hi : (P.info? T).map (·.size) = some 1) (hone : v.oneCell' = true) (hv : ValsB e e2)
    (hQ : ∀ a' w', Blk w' gq T' (z.setIfInBounds k v) → w' = w.setCells gq k [v] → StE U N e2 F a' w' → wpList P ops Q rest a' w') : wpList P ops Q (o :: rest) a w := by
  refine wpList_store_cell h3 T (.tmp t) (.tmp s) h1 gq k v (h.get t hg) (h.get s hx) hvc (by rw [hB.cell]; simp [hk]) (hB.frozen k) hi hone ?_
  rw [h2]
  have G : w.grownBy (w.setCells gq k [v]) (some gq) := only_setCells [v] k (only_refl w (some gq))
  exact hQ _ _ (hB.set_ k v) rfl (h.vals ⟨fun k hk => Nat.lt_of_lt_of_le (h.fok.lt k hk) G.size, fun u => absurd u hu⟩ hv)
theorem p_faV0 {d : Nat} {t : TypeId} {p : String} {af : Array Edge} {gd : Option (Nat × Bool)} {c : Bool} {x : Operand} {u : TypeId} {i n b off : Nat} (hr : FieldRun P ⟨some d, .fieldAddr u x i, t, p, af, gd⟩ x n) (hg : GdE ops e gd c) (hx : OpdE e c x (.val (.pointer (some ⟨b, off, none⟩)))) : Pays U P ops Q N e ⟨some d, .fieldAddr u x i, t, p, af, gd⟩ (c, .val (.pointer (some ⟨b, off + n, none⟩))) :=
  pVal hg fun e a w F hk => ⟨_, hr _ w b off (hx a w F (fun s hs => hk s (by simp [Op.operands, hs])) e), rfl⟩
end
theorem slice_one {w : World} {B E k n : Nat} {v : Value} {xs : List Value} (h : w.ownsRow B E k v n xs) : v.oneCell' = true ∧ v.cells = #[v] := by
  obtain ⟨A, c, rfl⟩ := own_slice h
  exact ⟨rfl, rfl⟩
theorem ex_ok {w : World} {B E k n : Nat} {v : Value} {xs : List Value} (d : Int) (h : w.ownsRow B E k v n xs) : ∀ u ∈ [Value.int .i64 d, v], u.oneCell' = true := fun u hu => by
  rcases List.mem_cons.1 hu with rfl | hu
  · rfl
  · rw [List.mem_singleton.1 hu]; exact (slice_one h).1
theorem ex_part {a v : Value} (h : ∀ u ∈ [a, v], u.oneCell' = true) : Part (Lay.exact [a, v] h) (Lay.exact [v] (fun u hu => h u (List.mem_cons_of_mem _ hu))) 1 (fun _ => ()) := by
  rintro w F cs x rfl
  exact ⟨[a], [v], [], rfl, rfl, rfl⟩
theorem raw_of_own {w : World} {B g : Nat} {v : Value} {d : Int} {ps : List (Int × Int)} (h : w.ownsRow B 90 2 v ps.length (ps.flatMap prE)) (hg : g < B) : rawL.on w (AtB g) [.int .i64 d, v] ⟨d, ps⟩ := by
  obtain ⟨A, c, e1, e2, e3⟩ := sl_of_own prF h (F := AtB g) fun x o hx _ => own_notAt h hg x o hx
  simp only [List.cons.injEq, and_true] at e1
  exact ⟨[.int .i64 d], [v], rfl, rfl, A, c, by rw [e1], e2, e3⟩
theorem rdP_go {bs : List Int} {m : Nat} {s : Nat × Bool} {acc : List (Int × Int)} (h : s.2 = false) : rdP bs (m + 1) s acc = rdP bs m (nx bs (nx bs s 4).2 1).2 (acc ++ [((nx bs s 4).1, (nx bs (nx bs s 4).2 1).1)]) := by rw [rdP, if_neg (by rw [h]; simp)]
theorem rdP_bad {bs : List Int} {m : Nat} {s : Nat × Bool} {acc : List (Int × Int)} (h : s.2 = true) : rdP bs m s acc = (acc, s) := by
  cases m with
  | zero => rfl
  | succ m => rw [rdP, if_pos h]

end Go.Proofs.Ytihddficgpjgpaa.Y
