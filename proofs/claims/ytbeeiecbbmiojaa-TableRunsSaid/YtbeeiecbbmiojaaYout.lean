/- Steps of code of which everything is known outright: values in slots, blocks, rows, maps. No program in sight. -/
import Derived.Test.YtbeeiecbbmiojaaYassoc
import Derived.Test.YtbeeiecbbmiojaaYfld
namespace Go.Proofs.Ytbeeiecbbmiojaa.Y
open Go.RowKit Go.ChangeMaps Go.MapKept
variable {Df : List Deferred}

/-- Values that are known outright stay so, whatever is written. -/
def ValsB (e : Env) : Env → Prop
  | [] => True
  | (s, k) :: t => (∃ x, k = (true, .val x) ∧ e.lookup s = some k) ∧ ValsB e t
theorem vv {e e2 : Env} (s : Nat) {x : Value} (h : e.lookup s = some (true, .val x)) (hr : ValsB e e2) : ValsB e ((s, true, .val x) :: e2) := ⟨⟨x, rfl, h⟩, hr⟩
theorem vn {e : Env} : ValsB e [] := True.intro
theorem StE.vals {U : Prop} {N : Nat} {e e2 : Env} {F F' : Cell → Prop} {a : Act} {w w' : World} (h : StE U N e F a w Df) (hF : FOK U F' w') (hv : ValsB e e2) : StE U N e2 F' a w' Df := by
  refine ⟨h.size, h.defers, hF, fun s k hk => ?_⟩
  induction e2 with
  | nil => cases hk
  | cons p t ih =>
    obtain ⟨s', k'⟩ := p
    rw [List.lookup_cons] at hk
    cases hs : s == s' with
    | false => rw [hs] at hk; exact ih hv.2 hk
    | true =>
      rw [hs] at hk
      simp at hk hs
      subst hs hk
      obtain ⟨x, rfl, hl⟩ := hv.1
      exact ⟨fun _ => h.get s hl, fun e => by cases e⟩
theorem fok_no (U : Prop) (w : World) : FOK U noF w := fok_none U w
theorem slice_one {w : World} {B E k n : Nat} {v : Value} {xs : List Value} (h : w.ownsRow B E k v n xs) : v.oneCell' = true ∧ v.cells = #[v] := by
  obtain ⟨A, c, rfl⟩ := own_slice h
  exact ⟨rfl, rfl⟩
theorem own_ne3 {w : World} {B B' n n' size size' : Nat} {e e' : TypeId} {v v' : Value} {xs xs' : List Value} (h : w.ownsRow B e size v n xs) (h' : w.ownsRow B' e' size' v' n' xs') (hne : e' ≠ e) : v.ownBlock = none ∨ v.ownBlock ≠ v'.ownBlock := by
  cases hv : v.ownBlock with
  | none => exact .inl rfl
  | some g =>
    obtain ⟨_, cs, hb⟩ := own_row_blk h hv
    exact .inr (own_ne h' hb hne)
/-- Only these blocks of what was there are written. -/
structure OnlyB (S : Nat → Prop) (w w' : World) : Prop where
  os : w'.os = w.os
  tape : w'.tape = w.tape
  output : w'.output = w.output
  size : w.heap.size ≤ w'.heap.size
  block : ∀ i, i < w.heap.size → ¬ S i → w'.heap[i]? = w.heap[i]?
theorem OnlyB.refl (S : Nat → Prop) (w : World) : OnlyB S w w := ⟨rfl, rfl, rfl, Nat.le_refl _, fun _ _ _ => rfl⟩
theorem OnlyB.trans {S S' : Nat → Prop} {w w1 w2 : World} (h : OnlyB S w w1) (h' : OnlyB S' w1 w2) (hS : ∀ i, i < w.heap.size → S' i → S i) : OnlyB S w w2 := ⟨h'.os.trans h.os, h'.tape.trans h.tape, h'.output.trans h.output, Nat.le_trans h.size h'.size, fun i hi hn => (h'.block i (Nat.lt_of_lt_of_le hi h.size) fun e => hn (hS i hi e)).trans (h.block i hi hn)⟩
theorem OnlyB.grown {S : Nat → Prop} {w w1 w2 : World} {r : Option Nat} (h : OnlyB S w w1) (hg : w1.grownBy w2 r) (hS : ∀ i, i < w.heap.size → r = some i → S i) : OnlyB S w w2 := ⟨hg.os.trans h.os, hg.tape.trans h.tape, hg.output.trans h.output, Nat.le_trans h.size hg.size, fun i hi hn => (hg.block i (Nat.lt_of_lt_of_le hi h.size) fun e => hn (hS i hi e.symm)).trans (h.block i hi hn)⟩
theorem OnlyB.below {S : Nat → Prop} {w w1 w2 : World} (h : OnlyB S w w1) (hb : Below w1.heap.size w1 w2) : OnlyB S w w2 := h.grown (only_of_below hb none) fun _ _ e => by cases e
theorem OnlyB.of_below {S : Nat → Prop} {w w1 : World} (hb : Below w.heap.size w w1) : OnlyB S w w1 := (OnlyB.refl S w).below hb
theorem OnlyB.mono {S S' : Nat → Prop} {w w1 : World} (h : OnlyB S w w1) (hS : ∀ i, i < w.heap.size → S i → S' i) : OnlyB S' w w1 := ⟨h.os, h.tape, h.output, h.size, fun i hi hn => h.block i hi fun e => hn (hS i hi e)⟩
theorem OnlyB.to_below {S : Nat → Prop} {w w1 : World} {B : Nat} (h : OnlyB S w w1) (hS : ∀ i, i < B → ¬ S i) (hB : B ≤ w.heap.size) : Below B w w1 := ⟨h.os, h.tape, h.output, h.size, fun i hi => h.block i (Nat.lt_of_lt_of_le hi hB) (hS i hi)⟩
theorem blk_only {S : Nat → Prop} {w w' : World} {g : Nat} {t : TypeId} {cs : Array Value} (h : Blk w g t cs) (ho : OnlyB S w w') (hn : ¬ S g) : Blk w' g t cs := (ho.block g h.lt hn).trans h
theorem MapAt.only {S : Nat → Prop} {w w' : World} {b : Nat} {k : IntKind} {l : List (Int × Value)} (h : MapAt w b k l) (ho : OnlyB S w w') (hn : ¬ S b) : MapAt w' b k l := h.same (ho.block b h.lt hn)
theorem MapAt.grown {w w' : World} {b : Nat} {k : IntKind} {l : List (Int × Value)} {r : Option Nat} (h : MapAt w b k l) (hg : w.grownBy w' r) (hn : r ≠ some b) : MapAt w' b k l := h.same (hg.block b h.lt (Ne.symm hn))
theorem own_only {S : Nat → Prop} {w w' : World} {B E k n : Nat} {v : Value} {xs : List Value} (h : w.ownsRow B E k v n xs) (ho : OnlyB S w w') (hn : ∀ g, v.ownBlock = some g → ¬ S g) : w'.ownsRow B E k v n xs := by
  refine ⟨h.1, ?_⟩
  rcases h.2 with h3 | ⟨g, c, cur, e, h4, h5, r⟩
  · exact .inl h3
  · exact .inr ⟨g, c, cur, e, h4, (ho.block g (Blk.lt (g := g) (cs := cur) (t := E) h5) (hn g (by rw [e]; rfl))).trans h5, r⟩
/-- A pointer into a block that is known outright. -/
def Sym.bp (g : Nat) (T : TypeId) (cs : Array Value) (k : Nat) : Sym := ⟨fun w F v => v = .pointer (some ⟨g, k, none⟩) ∧ Blk w g T cs ∧ ∀ i, ¬ F (g, i), by
  rintro w w' F F' v ⟨e, h1, h2⟩ hk hF
  exact ⟨e, (hk.whole g h1.lt h2).trans h1, fun i hf => h2 i (hF (g, i) h1.lt hf)⟩⟩
/-- A pointer to a block that holds a map. -/
def Sym.tab (g b : Nat) (T : TypeId) (l : List (Int × Value)) : Sym := ⟨fun w F v => v = .pointer (some ⟨g, 0, none⟩) ∧ Blk w g T #[.map (some b)] ∧ MapAt w b .u64 l ∧ (∀ i, ¬ F (g, i)) ∧ ∀ i, ¬ F (b, i), by
  rintro w w' F F' v ⟨e, h1, h2, h3, h4⟩ hk hF
  exact ⟨e, (hk.whole g h1.lt h3).trans h1, h2.same (hk.whole b h2.lt h4), fun i hf => h3 i (hF (g, i) h1.lt hf), fun i hf => h4 i (hF (b, i) h2.lt hf)⟩⟩
/-- A pointer, or none. -/
def optP : Option Nat → Value
  | some g => .pointer (some ⟨g, 0, none⟩)
  | none => .pointer none
def NilRun (P : Program) (o : Oper) (x : Operand) : Prop := ∀ (ev : Operand → Value) (w : World) (b off : Nat), ev x = .pointer (some ⟨b, off, none⟩) → (execOp ev o).run P w = .ok (.value (.pointer (some ⟨b, off, none⟩))) w
section
variable {U : Prop} {P : Program} {ops : Array Oper} {Q : Exit → Act → World → Prop} {N d : Nat} {e : Env} {t : TypeId} {p : String} {af : Array Edge} {g : Option (Nat × Bool)} {c : Bool} {x x2 : Operand} {b T k : Nat} {cs : Array Value}
theorem nilRun : NilRun P ⟨some d, .nilCheck x, t, p, af, g⟩ x := fun ev w b off h => by simp [execOp, h, go_sem]
theorem p_nilB (hg : GdE ops e g c) (hx : OpdE e c x (.bp b T cs k)) : Pays U P ops Q N e ⟨some d, .nilCheck x, t, p, af, g⟩ (c, .bp b T cs k) :=
  pVal hg fun e a w F hk => by
    have h := hx a w F (fun s hs => hk s (by simp [Op.operands, hs])) e
    exact ⟨_, nilRun _ w b k h.1, rfl, h.2⟩
theorem p_nilV {off : Nat} (hg : GdE ops e g c) (hx : OpdE e c x (.val (.pointer (some ⟨b, off, none⟩)))) : Pays U P ops Q N e ⟨some d, .nilCheck x, t, p, af, g⟩ (c, .val (.pointer (some ⟨b, off, none⟩))) :=
  pVal hg fun e a w F hk => ⟨_, nilRun _ w b off (hx a w F (fun s hs => hk s (by simp [Op.operands, hs])) e), rfl⟩
theorem p_nilT {m : Nat} {l : List (Int × Value)} (hg : GdE ops e g c) (hx : OpdE e c x (.tab b m T l)) : Pays U P ops Q N e ⟨some d, .nilCheck x, t, p, af, g⟩ (c, .tab b m T l) :=
  pVal hg fun e a w F hk => by
    have h := hx a w F (fun s hs => hk s (by simp [Op.operands, hs])) e
    exact ⟨_, nilRun _ w b 0 h.1, rfl, h.2⟩
theorem p_faB {u i n : Nat} (hr : FieldRun P ⟨some d, .fieldAddr u x i, t, p, af, g⟩ x n) (hg : GdE ops e g c) (hx : OpdE e c x (.bp b T cs k)) : Pays U P ops Q N e ⟨some d, .fieldAddr u x i, t, p, af, g⟩ (c, .bp b T cs (k + n)) :=
  pVal hg fun e a w F hk => by
    have h := hx a w F (fun s hs => hk s (by simp [Op.operands, hs])) e
    exact ⟨_, hr _ w b k h.1, rfl, h.2⟩
theorem p_faV0 {u i n off : Nat} (hr : FieldRun P ⟨some d, .fieldAddr u x i, t, p, af, g⟩ x n) (hg : GdE ops e g c) (hx : OpdE e c x (.val (.pointer (some ⟨b, off, none⟩)))) : Pays U P ops Q N e ⟨some d, .fieldAddr u x i, t, p, af, g⟩ (c, .val (.pointer (some ⟨b, off + n, none⟩))) :=
  pVal hg fun e a w F hk => ⟨_, hr _ w b off (hx a w F (fun s hs => hk s (by simp [Op.operands, hs])) e), rfl⟩
theorem p_faT {u i m : Nat} {l : List (Int × Value)} (hr : FieldRun P ⟨some d, .fieldAddr u x i, t, p, af, g⟩ x 0) (hg : GdE ops e g c) (hx : OpdE e c x (.tab b m T l)) : Pays U P ops Q N e ⟨some d, .fieldAddr u x i, t, p, af, g⟩ (c, .tab b m T l) :=
  pVal hg fun e a w F hk => by
    have h := hx a w F (fun s hs => hk s (by simp [Op.operands, hs])) e
    exact ⟨_, hr _ w b 0 h.1, rfl, h.2⟩
theorem p_ldB {u : TypeId} {v : Value} (hr : LoadRun P ⟨some d, .load u x, t, p, af, g⟩ x) (hv : cs[k]? = some v) (hg : GdE ops e g c) (hx : OpdE e c x (.bp b T cs k)) : Pays U P ops Q N e ⟨some d, .load u x, t, p, af, g⟩ (c, .val v) :=
  pVal hg fun e a w F hk => by
    have h := hx a w F (fun s hs => hk s (by simp [Op.operands, hs])) e
    exact ⟨v, hr _ w b k v h.1 (by rw [h.2.1.cell]; exact hv), rfl⟩
theorem p_ldT {u : TypeId} {m : Nat} {l : List (Int × Value)} (hr : LoadRun P ⟨some d, .load u x, t, p, af, g⟩ x) (hg : GdE ops e g c) (hx : OpdE e c x (.tab b m T l)) : Pays U P ops Q N e ⟨some d, .load u x, t, p, af, g⟩ (c, .both (.val (.map (some m))) (.map .u64 l)) :=
  pVal hg fun e a w F hk => by
    have h := hx a w F (fun s hs => hk s (by simp [Op.operands, hs])) e
    exact ⟨.map (some m), hr _ w b 0 _ h.1 (by rw [h.2.1.cell]; rfl), rfl, m, rfl, h.2.2.1, h.2.2.2.2⟩
/-- What cannot run. -/
theorem p_dead {op : Op} {y : Sym} (hg : GdE ops e g c) (hc : c = false) : Pays U P ops Q N e ⟨some d, op, t, p, af, g⟩ (c, y) :=
  pVal hg fun h => by rw [hc] at h; cases h
theorem p_lookO {n : Int} {y : Sym} {l : List (Int × Value)} {kt et : TypeId} {r : Option Nat} (ht : P.underlying T = some (.map kt et)) (hk : P.underlying kt = some (.int .u64)) (hz : ∀ w, (zeroValue et).run P w = .ok (.pointer none) w) (hr : (l.lookup n).getD (.pointer none) = optP r)
    (hg : GdE ops e g c) (hx : OpdE e c x (.both y (.map .u64 l))) (hx2 : OpdE e c x2 (.int .u64 n)) : Pays U P ops Q N e ⟨some d, .lookup T x x2 false, t, p, af, g⟩ (c, .val (optP r)) := by
  rw [← hr]
  exact p_lookup ht hk hz hg (fun a w F h hc => (hx a w F h hc).2) hx2
theorem p_lenMO {y : Sym} {l : List (Int × Value)} {kt et : TypeId} (ht : P.underlying T = some (.map kt et)) (hg : GdE ops e g c) (hx : OpdE e c x (.both y (.map .u64 l))) : Pays U P ops Q N e ⟨some d, .call { callee := .builtin .len, args := #[x], argTypes := #[T] }, t, p, af, g⟩ (c, .int .i64 l.length) :=
  p_lenM ht hg (fun a w F h hc => (hx a w F h hc).2)
end
section
variable {U : Prop} {P : Program} {Q : Exit → Act → World → Prop} {N : Nat} {e e2 : Env} {F : Cell → Prop} {a : Act} {w : World} {ops : Array Oper} {rest : List Oper} {o : Oper}
theorem with_st (h : StE U N e F a w Df) (k : StE U N e F a w Df → wpList P ops Q rest a w) : wpList P ops Q rest a w := k h
theorem off_on {d : Nat} (y : Sym) (h : StE U N e F a w Df) (hw : Region.wanted o (yielded ops a.tmps) = false) (hd : o.dst = some d) (hdN : decide (d < N) = true)
    (hQ : ∀ a', StE U N ((d, false, y) :: e) F a' w Df → wpList P ops Q rest a' w) : wpList P ops Q (o :: rest) a w := by
  refine wpList_off hw ?_
  rw [hd]
  exact hQ _ (h.put (Below.refl _ _) (by simpa using hdN) ⟨(fun e => by cases e), fun _ => rfl⟩)
/-- What a step gives that writes nothing. -/
theorem pure_on {d : Nat} {v : Value} (h : StE U N e F a w Df) (hw : Region.wanted o (yielded ops a.tmps) = true) (hd : o.dst = some d) (hdN : decide (d < N) = true)
    (hr : (execOp a.eval o).run P w = .ok (.value v) w)
    (hQ : ∀ a', StE U N ((d, true, .val v) :: e) F a' w Df → wpList P ops Q rest a' w) : wpList P ops Q (o :: rest) a w := by
  refine wpList_on hw ?_
  unfold Oper.wp
  rw [hr]
  show wpList P ops Q rest (a.put o.dst v) w
  rw [hd]
  exact hQ _ (h.put (Below.refl _ _) (by simpa using hdN) ⟨fun _ => rfl, fun e => by cases e⟩)
theorem look_on {d : Nat} {T kt et : TypeId} {k : IntKind} {l : List (Int × Value)} {b : Nat} {n : Int} {z v : Value} {x1 x2 : Operand} (h : StE U N e F a w Df) (hw : Region.wanted o (yielded ops a.tmps) = true) (ho : o.op = .lookup T x1 x2 false) (hd : o.dst = some d) (hdN : decide (d < N) = true)
    (h1 : a.eval x1 = .map (some b)) (h2 : a.eval x2 = .int k n) (hm : MapAt w b k l) (ht : P.underlying T = some (.map kt et)) (hk : P.underlying kt = some (.int k)) (hz : ∀ w, (zeroValue et).run P w = .ok z w) (hv : (l.lookup n).getD z = v)
    (hQ : ∀ a', StE U N ((d, true, .val v) :: e) F a' w Df → wpList P ops Q rest a' w) : wpList P ops Q (o :: rest) a w :=
  pure_on h hw hd hdN (by
    have := run_look hm ht hk (hz w) n
    unfold execOp
    simp [ho, h1, h2, this, Result.andThen, hv]) hQ
theorem lenM_on {d : Nat} {T kt et : TypeId} {k : IntKind} {l : List (Int × Value)} {b : Nat} {x1 : Operand} (h : StE U N e F a w Df) (hw : Region.wanted o (yielded ops a.tmps) = true) (ho : o.op = .call { callee := .builtin .len, args := #[x1], argTypes := #[T] }) (hd : o.dst = some d) (hdN : decide (d < N) = true)
    (h1 : a.eval x1 = .map (some b)) (hm : MapAt w b k l) (ht : P.underlying T = some (.map kt et))
    (hQ : ∀ a', StE U N ((d, true, .val (.int .i64 l.length)) :: e) F a' w Df → wpList P ops Q rest a' w) : wpList P ops Q (o :: rest) a w :=
  pure_on h hw hd hdN (by
    have := run_lenM hm ht o.type
    unfold execOp
    simp only [ho, resolve, invoke, builtin, Sem.run_bind, Sem.run_pure, Result.andThen_ok, List.map_toArray, List.map_cons, List.map_nil, h1, this]) hQ
theorem upd_on {T kt et : TypeId} {k : IntKind} {l : List (Int × Value)} {b : Nat} {x1 x2 x3 : Operand} {n : Int} {v : Value} (h : StE False N e noF a w Df) (hm : MapAt w b k l) (ho : o.op = .mapUpdate T x1 x2 x3) (hd : o.dst = none) (hgd : o.guard = none)
    (h1 : a.eval x1 = .map (some b)) (h2 : a.eval x2 = .int k n) (h3 : a.eval x3 = v) (ht : P.underlying T = some (.map kt et)) (hk : P.underlying kt = some (.int k)) (hv : ValsB e e2)
    (hQ : ∀ w', MapAt w' b k (putA l n v) → w.grownBy w' (some b) → StE False N e2 noF a w' Df → wpList P ops Q rest a w') : wpList P ops Q (o :: rest) a w := by
  refine wpList_plain hgd fun K hK => ?_
  obtain ⟨w', r1, r2, r3⟩ := run_update (P := P) hm ht hk n v
  have hfin := hQ w' r2 r3 (h.vals (fok_no _ _) hv)
  unfold Oper.wp
  simp [execOp, ho, h1, h2, h3, r1, Result.andThen]
  refine hK _ _ ?_
  rw [hd]
  exact hfin
theorem mk_on {d : Nat} {T : TypeId} (k : IntKind) (h : StE False N e noF a w Df) (ho : o.op = .makeMap T none) (hd : o.dst = some d) (hdN : decide (d < N) = true) (hgd : o.guard = none) (hv : ValsB e e2)
    (hQ : ∀ g a' w', MapAt w' g k [] → w.heap.size ≤ g → Below w.heap.size w w' → StE False N ((d, true, .val (.map (some g))) :: e2) noF a' w' Df → wpList P ops Q rest a' w') : wpList P ops Q (o :: rest) a w := by
  refine wpList_plain hgd fun K hK => ?_
  have hb : Below w.heap.size w (w.alloc (.map #[] 0)) := (Below.refl _ _).alloc (Nat.le_refl _) _
  unfold Oper.wp execOp
  simp only [ho, Sem.run_bind, Sem.run_pure]
  refine hK _ _ ?_
  rw [hd]
  exact hQ _ _ _ (map_made w k) (Nat.le_refl _) hb ((h.vals (fok_no _ _) hv).put (Below.refl _ _) (by simpa using hdN) ⟨fun _ => rfl, fun e => by cases e⟩)
theorem alloc_on {d : Nat} {u : TypeId} {z : Array Value} (h : StE False N e noF a w Df) (hw : Region.wanted o (yielded ops a.tmps) = true) (hd : o.dst = some d) (hdN : decide (d < N) = true) (hr : (execOp a.eval o).run P w = .ok (.value (.pointer (some ⟨w.heap.size, 0, none⟩))) (w.alloc (.cells z u))) (hv : ValsB e e2)
    (hQ : ∀ g a' w', Blk w' g u z → w.heap.size ≤ g → Below w.heap.size w w' → StE False N ((d, true, .val (.pointer (some ⟨g, 0, none⟩))) :: e2) noF a' w' Df → wpList P ops Q rest a' w') : wpList P ops Q (o :: rest) a w := by
  have hb : Below w.heap.size w (w.alloc (.cells z u)) := (Below.refl _ _).alloc (Nat.le_refl _) _
  have hB := Blk.new w u z
  refine wpList_on hw ?_
  unfold Oper.wp
  rw [hr]
  show wpList P ops Q rest (a.put o.dst _) _
  rw [hd]
  exact hQ _ _ _ hB (Nat.le_refl _) hb ((h.vals (fok_no _ _) hv).put (Below.refl _ _) (by simpa using hdN) ⟨fun _ => rfl, fun e => by cases e⟩)
/-- A slice of one cell of its own. -/
theorem lit_on {d : Nat} {u : TypeId} {z : Array Value} (h : StE False N e noF a w Df) (hw : Region.wanted o (yielded ops a.tmps) = true) (hd : o.dst = some d) (hdN : decide (d < N) = true) (hr : (execOp a.eval o).run P w = .ok (.value (.slice (some ⟨w.heap.size, 0, none⟩) 1 1)) (w.alloc (.cells z u))) (hv : ValsB e e2)
    (hQ : ∀ g a' w', Blk w' g u z → w.heap.size ≤ g → Below w.heap.size w w' → StE False N ((d, true, .val (.slice (some ⟨g, 0, none⟩) 1 1)) :: e2) noF a' w' Df → wpList P ops Q rest a' w') : wpList P ops Q (o :: rest) a w := by
  have hb : Below w.heap.size w (w.alloc (.cells z u)) := (Below.refl _ _).alloc (Nat.le_refl _) _
  have hB := Blk.new w u z
  refine wpList_on hw ?_
  unfold Oper.wp
  rw [hr]
  show wpList P ops Q rest (a.put o.dst _) _
  rw [hd]
  exact hQ _ _ _ hB (Nat.le_refl _) hb ((h.vals (fok_no _ _) hv).put (Below.refl _ _) (by simpa using hdN) ⟨fun _ => rfl, fun e => by cases e⟩)
/-- A run of cells of a block is stored. -/
theorem cells_on {gq k : Nat} {T T' : TypeId} {z : Array Value} {v : Value} {vs : List Value} {xo yo : Operand} (h : StE False N e noF a w Df) (h1 : o.op = .store T xo yo) (h2 : o.dst = none) (h3 : o.guard = none) (kx : a.eval xo = .pointer (some ⟨gq, k, none⟩)) (ky : a.eval yo = v) (hvc : v.cells = vs.toArray) (hB : Blk w gq T' z) (hk : k + vs.length ≤ z.size) (hi : (P.info? T).map (·.size) = some vs.length) (hone : ∀ u ∈ vs, u.oneCell' = true) (hv : ValsB e e2)
    (hQ : ∀ a' w', Blk w' gq T' (over z k vs) → w.grownBy w' (some gq) → StE False N e2 noF a' w' Df → wpList P ops Q rest a' w') : wpList P ops Q (o :: rest) a w := by
  refine wpList_plain h3 fun K hK => ?_
  refine wp_store_cells T xo yo h1 gq k vs kx (by rw [ky]; exact hvc) (fun j hj => by rw [hB.cell, Array.getElem?_eq_getElem (by omega)]; rfl) (fun j hj => hB.frozen _) hi hone (hK _ _ ?_)
  rw [h2]
  have G : w.grownBy (w.setCells gq k vs) (some gq) := only_setCells vs k (only_refl w (some gq))
  exact hQ _ _ (hB.setCells vs k hk) G (h.vals (fok_no _ _) hv)
theorem ldc_on {g k d : Nat} {Tg : TypeId} {cs : Array Value} {v : Value} {xo : Operand} (h : StE U N e F a w Df) (hw : Region.wanted o (yielded ops a.tmps) = true) (hd : o.dst = some d) (hdN : decide (d < N) = true)
    (hr : ∀ (ev : Operand → Value) (w : World) (b off : Nat) (v : Value), ev xo = .pointer (some ⟨b, off, none⟩) → w.cell? ⟨b, off, none⟩ = some v → (execOp ev o).run P w = .ok (.value v) w)
    (kx : a.eval xo = .pointer (some ⟨g, k, none⟩)) (hB : Blk w g Tg cs) (hv : cs[k]? = some v)
    (hQ : ∀ a', StE U N ((d, true, .val v) :: e) F a' w Df → wpList P ops Q rest a' w) : wpList P ops Q (o :: rest) a w :=
  pure_on h hw hd hdN (hr _ w g k v kx (by rw [hB.cell]; exact hv)) hQ
/-- A call of which all is known outright. -/
theorem callO {f : FuncId} {d : Nat} {R : Value → World → Prop} (A : List Operand) (h : StE False N e noF a w Df) (hw : Region.wanted o (yielded ops a.tmps) = true) (hr : CallRun P o A f) (hd : o.dst = some d) (hdN : decide (d < N) = true)
    (HC : Calls P f (A.map a.eval).toArray w fun e w' => ∃ v, e = .returned v ∧ R v w') (hv : ValsB e e2)
    (hQ : ∀ v a' w', R v w' → StE False N ((d, true, .val v) :: e2) noF a' w' Df → wpList P ops Q rest a' w') : wpList P ops Q (o :: rest) a w := by
  refine call_on f A hw hr (HC.mono ?_)
  rintro _ w' ⟨v, rfl, h0⟩
  refine ⟨v, rfl, ?_⟩
  rw [hd]
  exact hQ v _ w' h0 ((h.vals (fok_no _ _) hv).put (Below.refl _ _) (by simpa using hdN) ⟨fun _ => rfl, fun e => by cases e⟩)
/-- A row of one's own grows by one element, whose cells stand in a block of their own. -/
theorem app_on {d B E T n size bytes gl : Nat} {v : Value} {xs cs : List Value} {i : TypeInfo} {z : Value} {x1 x2 : Operand} (h : StE False N e noF a w Df) (ho : o.op = .call { callee := .builtin .append, args := #[x1, x2], argTypes := #[T, T] }) (hd : o.dst = some d) (hdN : decide (d < N) = true) (hgd : o.guard = none)
    (ht : P.underlying T = some (.slice E)) (hi : P.info? E = some i) (hz : i.zero = some z) (hsize : i.size = size) (hby : i.bytes = bytes) (hzs : z.cells.size = size) (hsz : 0 < size)
    (hown : w.ownsRow B E size v n xs) (hsa : a.eval x1 = v) (hsb : a.eval x2 = .slice (some ⟨gl, 0, none⟩) 1 1) (hBl : Blk w gl E cs.toArray) (hl : cs.length = 1 * size) (h1 : ∀ u ∈ cs, u.oneCell' = true) (h63 : n + 1 ≤ maxLen) (hbytes : (n + 1) * bytes ≤ 140737488355328) (hB : B ≤ w.heap.size) (hv : ValsB e e2)
    (hQ : ∀ v' a' w', w'.ownsRow B E size v' (n + 1) (xs ++ cs) → w.grownBy w' v.ownBlock → (v'.ownBlock = v.ownBlock ∨ v'.ownBlock = some w.heap.size) → StE False N ((d, true, .val v') :: e2) noF a' w' Df → wpList P ops Q rest a' w') : wpList P ops Q (o :: rest) a w := by
  have hnews : ∀ j u, cs[j]? = some u → w.cell? ((⟨gl, 0, none⟩ : Addr).add j) = some u := fun j u hj => by
    rw [add_none, hBl.cell, ← hj]; simp
  refine wpList_plain hgd fun K hK => ?_
  obtain ⟨v', w', hr, h2, h3, _, h5⟩ := run_append_own_at (P := P) w B T o.type E i z size bytes ht hi hz hsize hby hzs hsz v n _ hown ⟨gl, 0, none⟩ 1 1 _ hl hnews h1 h63 hbytes hB
  have hs := h.vals (F' := noF) (w' := w') (fok_no _ _) hv
  unfold Oper.wp execOp
  simp only [ho, resolve, invoke, builtin, Sem.run_bind, Sem.run_pure, Result.andThen_ok, List.map_toArray, List.map_cons, List.map_nil, hsa, hsb, hr]
  refine hK _ _ ?_
  rw [hd]
  exact hQ v' _ w' h2 h3 h5 (hs.put (Below.refl _ _) (by simpa using hdN) ⟨fun _ => rfl, fun e => by cases e⟩)
end
/-- The end: what a slot holds, and what is known of the world. -/
theorem ret_o {U : Prop} {P : Program} {N : Nat} {e : Env} {F : Cell → Prop} {a : Act} {w : World} {fn : Func} {R : Value → World → Prop} {v : Value} (h : StE U N e F a w) (s : Nat) (hr : fn.results = #[.tmp s]) (hs : e.lookup s = some (true, .val v)) (hR : R v w) : bodyPost P fn (fun e w' => ∃ v, e = .returned v ∧ R v w') .ret a w := by
  have hv : a.tmps.getD s undef = v := h.get s hs
  refine bodyPost_ret (v := v) ?_ h.defers ⟨_, rfl, hR⟩
  rw [← hv]
  simp [results, hr]
theorem exists_min {p : Nat → Prop} (h : ∃ n, p n) : ∃ n, p n ∧ ∀ m, p m → n ≤ m := by
  obtain ⟨n, hn⟩ := h
  induction n using Nat.strongRecOn with
  | _ n ih =>
    by_cases h2 : ∃ m, m < n ∧ p m
    · obtain ⟨m, hm, hp⟩ := h2
      exact ih m hm hp
    · exact ⟨n, hn, fun m hp => Nat.le_of_not_lt fun hm => h2 ⟨m, hm, hp⟩⟩
/-- A loop whose rounds spend from a store that no slot tells. -/
theorem wp_loopK {P : Program} {c : Code} {Q : Exit → Act → World → Prop} {a : Act} {w : World} (I : Nat → Act → World → Prop) (k : Nat) (h0 : I k a w) (round : ∀ k a w, I k a w → c.wp P (Exit.then (fun a' w' => ∃ k', k' < k ∧ I k' a' w') Q) a w) : (Code.loop c).wp P Q a w := by
  classical
  have ex : ∀ a w, (∃ k, I k a w) → ∃ n, I n a w ∧ ∀ m, I m a w → n ≤ m := fun a w h => exists_min h
  refine wp_loop (fun a w => ∃ k, I k a w) (fun a w => if h : ∃ k, I k a w then Classical.choose (ex a w h) else 0) ⟨k, h0⟩ fun a w h => ?_
  have hm := Classical.choose_spec (ex a w h)
  refine Code.wp_mono (fun e a' w' q => ?_) (round _ a w hm.1)
  cases e with
  | normal =>
    obtain ⟨k', hlt, hI⟩ := q
    refine ⟨⟨k', hI⟩, ?_⟩
    rw [dif_pos h, dif_pos ⟨k', hI⟩]
    exact Nat.lt_of_le_of_lt ((Classical.choose_spec (ex a' w' ⟨k', hI⟩)).2 k' hI) hlt
  | _ => exact q
end Go.Proofs.Ytbeeiecbbmiojaa.Y
