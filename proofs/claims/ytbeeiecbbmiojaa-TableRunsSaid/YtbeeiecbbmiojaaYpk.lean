/- Fresh rows that grow, blocks of a call's own that other calls write, slices of numbers written out. No program in sight. -/
import Derived.Test.YtbeeiecbbmiojaaYvar
namespace Go.Proofs.Ytbeeiecbbmiojaa.Y
open Go.RowKit
variable {Df : List Deferred}

/-- The cells of one block. -/
def AtB (g : Nat) : Cell → Prop := fun c => c.1 = g
/-- A row of numbers in a block of its own. -/
def Sym.lits (m : Nat) (E : TypeId) (cs : List Value) : Sym := ⟨fun w F v => ∃ g, v = .slice (some ⟨g, 0, none⟩) m m ∧ Blk w g E cs.toArray ∧ ∀ o, ¬ F (g, o), by
  rintro w w' F F' v ⟨g, e, h1, h2⟩ hk hF
  exact ⟨g, e, (hk.whole g h1.lt h2).trans h1, fun o hf => h2 o (hF (g, o) h1.lt hf)⟩⟩
theorem lits_sl {k : IntKind} {l : List Int} {E : TypeId} {w : World} {F : Cell → Prop} {v : Value} (h : (Sym.lits l.length E (l.map (Value.int k))).on w F v) : (Sym.one (Lay.sl (Lay.int k)) l).on w F v := by
  obtain ⟨g, rfl, h1, h2⟩ := h
  refine ⟨some ⟨g, 0, none⟩, l.length, rfl, fun _ => ⟨g, 0, rfl, h1.lt, fun i hi => ⟨[.int k l[i]], rfl, fun j hj => ⟨h2 _, ?_⟩⟩⟩, Nat.le_refl _⟩
  obtain rfl : j = 0 := by simpa using hj
  rw [h1.cell]
  simp [Lay.int, hi]
section
variable {U : Prop} {P : Program} {Q : Exit → Act → World → Prop} {N : Nat} {e : Env} {F F0 : Cell → Prop} {a : Act} {w w' : World}
theorem p_lits1 {ops : Array Oper} {d : Nat} {t : TypeId} {p : String} {af : Array Edge} {g : Option (Nat × Bool)} {c : Bool} {x : Operand} {k : IntKind} {z : Int} {T E : TypeId}
    (hr : ∀ (ev : Operand → Value) (w : World), ev x = .int k z → (execOp ev ⟨some d, .buildSlice T 1 #[(0, x)], t, p, af, g⟩).run P w = .ok (.value (.slice (some ⟨w.heap.size, 0, none⟩) 1 1)) (w.alloc (.cells #[.int k z] E)))
    (hg : GdE ops e g c) (hx : OpdE e c x (.int k z)) : Pays U P ops Q N e ⟨some d, .buildSlice T 1 #[(0, x)], t, p, af, g⟩ (c, .both (.lits 1 E [.int k z]) (.one (Lay.sl (Lay.int k)) [z])) :=
  pOf hg fun e a w F hF hk R hR => by
    have h1 := hx a w F (fun s hs => hk s (by simp [Op.operands, hs])) e
    have hb : Below w.heap.size w (w.alloc (.cells #[.int k z] E)) := (Below.refl _ _).alloc (Nat.le_refl _) _
    have hB := Blk.new w E #[.int k z]
    have hl : (Sym.lits 1 E [.int k z]).on (w.alloc (.cells #[.int k z] E)) F (.slice (some ⟨w.heap.size, 0, none⟩) 1 1) := ⟨w.heap.size, rfl, hB, fun o h => Nat.lt_irrefl _ (hF.lt _ h)⟩
    unfold Oper.wp
    rw [hr _ w h1]
    exact hR _ _ hb ⟨hl, lits_sl (l := [z]) hl⟩
theorem p_lits2 {ops : Array Oper} {d : Nat} {t : TypeId} {p : String} {af : Array Edge} {g : Option (Nat × Bool)} {c : Bool} {x x2 : Operand} {k : IntKind} {z z2 : Int} {T E : TypeId}
    (hr : ∀ (ev : Operand → Value) (w : World), ev x = .int k z → ev x2 = .int k z2 → (execOp ev ⟨some d, .buildSlice T 2 #[(0, x), (1, x2)], t, p, af, g⟩).run P w = .ok (.value (.slice (some ⟨w.heap.size, 0, none⟩) 2 2)) (w.alloc (.cells #[.int k z, .int k z2] E)))
    (hg : GdE ops e g c) (hx : OpdE e c x (.int k z)) (hx2 : OpdE e c x2 (.int k z2)) : Pays U P ops Q N e ⟨some d, .buildSlice T 2 #[(0, x), (1, x2)], t, p, af, g⟩ (c, .both (.lits 2 E [.int k z, .int k z2]) (.one (Lay.sl (Lay.int k)) [z, z2])) :=
  pOf hg fun e a w F hF hk R hR => by
    have h1 := hx a w F (fun s hs => hk s (by simp [Op.operands, hs])) e
    have h2 := hx2 a w F (fun s hs => hk s (by simp [Op.operands, hs])) e
    have hb : Below w.heap.size w (w.alloc (.cells #[.int k z, .int k z2] E)) := (Below.refl _ _).alloc (Nat.le_refl _) _
    have hB := Blk.new w E #[.int k z, .int k z2]
    have hl : (Sym.lits 2 E [.int k z, .int k z2]).on (w.alloc (.cells #[.int k z, .int k z2] E)) F (.slice (some ⟨w.heap.size, 0, none⟩) 2 2) := ⟨w.heap.size, rfl, hB, fun o h => Nat.lt_irrefl _ (hF.lt _ h)⟩
    unfold Oper.wp
    rw [hr _ w h1 h2]
    exact hR _ _ hb ⟨hl, lits_sl (l := [z, z2]) hl⟩

/-- A fresh row, which may grow from now on. -/
theorem StE.fresh {α : Type} {L : Lay α} {enc : α → List Value} {E : TypeId} {d B : Nat} {v : Value} {l : List α} (hf : Flat L enc) (hu : ¬ U) (h : StE U N e F a w Df) (hF0 : ∀ k, F0 k → F k) (hb : Below w.heap.size w w') (hown : w'.ownsRow w.heap.size E L.n v l.length (l.flatMap enc)) (hd : d < N) (hB : B ≤ w.heap.size) :
    Grows L enc B E F0 w' v l ∧ StE U N ((d, true, .both (.val v) (.one (Lay.sl L) l)) :: e) (And2 F0 (Sl v (l.length * L.n))) (a.put (some d) v) w' Df := by
  have hG : Grows L enc B E F0 w' v l := ⟨own_mono hown hB, fun g o hg hf0 => by
    have := own_base hown hg
    have := h.fok.lt (g, o) (hF0 _ hf0)
    simp only at this
    omega⟩
  have hF0' : FOK U F0 w' := (h.fok.sub hF0).below hb
  have hsub : ∀ k : Cell, k.1 < w.heap.size → And2 F0 (Sl v (l.length * L.n)) k → F k := fun k hk h' => by
    rcases h' with h' | ⟨h1, _⟩
    · exact hF0 k h'
    · have := own_base hown h1; omega
  have hst : StE U N e (And2 F0 (Sl v (l.length * L.n))) a w' Df := ⟨h.size, h.defers, hG.fok hu hF0', fun s k hs => (h.known s k hs).mono (.of hb) hsub⟩
  exact ⟨hG, hst.put (Below.refl _ _) hd ⟨fun _ => ⟨rfl, hG.sl hf⟩, fun e => by cases e⟩⟩
/-- A fresh block, which may be written from now on. -/
theorem StE.freshV {d g : Nat} {v : Value} (h : StE U N e F a w Df) (hb : Below w.heap.size w w') (hg : w.heap.size ≤ g) (hgl : g < w'.heap.size) (hnou : U → ∀ (o : Nat) (x : Int), w'.cell? ⟨g, o, none⟩ ≠ some (.int .u32 x)) (hd : d < N) : StE U N ((d, true, .val v) :: e) (And2 F (AtB g)) (a.put (some d) v) w' Df := by
  have hsub : ∀ k : Cell, k.1 < w.heap.size → And2 F (AtB g) k → F k := fun k hk h' => by
    rcases h' with h' | h1
    · exact h'
    · unfold AtB at h1; omega
  have hF' := h.fok.below hb
  have hst : StE U N e (And2 F (AtB g)) a w' Df := ⟨h.size, h.defers, ⟨fun k hk => by
    rcases hk with hk | hk
    · exact hF'.lt k hk
    · unfold AtB at hk; omega, fun u k hk o x => by
    rcases hk with hk | hk
    · exact hF'.nou u k hk o x
    · unfold AtB at hk; rw [hk]; exact hnou u o x⟩, fun s k hs => (h.known s k hs).mono (.of hb) hsub⟩
  exact hst.put (Below.refl _ _) hd ⟨fun _ => rfl, fun e => by cases e⟩
theorem keeps_grown {g : Nat} (hg : w.grownBy w' (some g)) (hF : ∀ o, F (g, o)) : Keeps F w w' := ⟨hg.size, fun k hk hn => World.cell?_of_block (hg.block k.1 hk fun e => hn (by
    injection e with e
    rw [show k = (g, k.2) from by rw [← e]]
    exact hF _)), fun b hb hn => hg.block b hb fun e => hn 0 (by injection e with e; rw [e]; exact hF 0)⟩
/-- A block that may be written is written. -/
theorem StE.wroteB {g : Nat} (h : StE U N e F a w Df) (hg : w.grownBy w' (some g)) (hF : ∀ o, F (g, o)) (hnou : U → ∀ (o : Nat) (x : Int), w'.cell? ⟨g, o, none⟩ ≠ some (.int .u32 x)) : StE U N e F a w' Df :=
  h.wrote (keeps_grown hg hF) ⟨fun k hk => Nat.lt_of_lt_of_le (h.fok.lt k hk) hg.size, fun u k hk o x => by
    by_cases e : k.1 = g
    · rw [e]; exact hnou u o x
    · rw [show w'.cell? ⟨k.1, o, none⟩ = w.cell? ⟨k.1, o, none⟩ from World.cell?_of_block (hg.block k.1 (h.fok.lt k hk) fun e' => e (by injection e'))]
      exact h.fok.nou u k hk o x⟩
/-- An operation that runs, whatever its guard. -/
theorem wpList_on {ops : Array Oper} {rest : List Oper} {o : Oper} (hw : Region.wanted o (yielded ops a.tmps) = true) (h : o.wp P a w (wpList P ops Q rest) Q) : wpList P ops Q (o :: rest) a w := by
  show if _ then _ else _
  rw [if_pos hw]
  exact .inl h
theorem wpList_off {ops : Array Oper} {rest : List Oper} {o : Oper} (hw : Region.wanted o (yielded ops a.tmps) = false) (h : wpList P ops Q rest (a.put o.dst undef) w) : wpList P ops Q (o :: rest) a w := by
  show if _ then _ else _
  rw [if_neg (by rw [hw]; simp)]
  exact h
theorem StE.wanted {ops : Array Oper} {o : Oper} {g : Option (Nat × Bool)} {c : Bool} (h : StE U N e F a w Df) (hg : GdE ops e g c) (ho : o.guard = g) : Region.wanted o (yielded ops a.tmps) = c := hg a w F o ho fun s _ => h.known s
theorem call_on {ops : Array Oper} {rest : List Oper} {o : Oper} (f : FuncId) (A : List Operand) (hw : Region.wanted o (yielded ops a.tmps) = true) (hr : CallRun P o A f) (hc : Calls P f (A.map a.eval).toArray w (fun e w' => ∃ v, e = .returned v ∧ wpList P ops Q rest (a.put o.dst v) w')) : wpList P ops Q (o :: rest) a w :=
  wpList_on hw (by
    unfold Oper.wp
    rw [hr, Oper.upon_enter]
    exact hc.mono (by rintro _ w' ⟨v, rfl, h⟩; exact h))
/-- append(nil, l..): a fresh row. -/
theorem copy_step {ops : Array Oper} {rest : List Oper} {o : Oper} {α : Type} {L : Lay α} {enc : α → List Value} {B : Nat} {T E : TypeId} {l : List α} {i : TypeInfo} {z : Value} {bytes d : Nat} (hf : Flat L enc) (sx : Nat) (hu : ¬ U) (h : StE U N e F a w Df) (hF0 : ∀ k, F0 k → F k)
    (ho : o.op = .call { callee := .builtin .append, args := #[.const (.slice none 0 0), .tmp sx], argTypes := #[T, T] }) (hd : o.dst = some d) (hdN : decide (d < N) = true) (hgd : o.guard = none)
    (ht : P.underlying T = some (.slice E)) (hi : P.info? E = some i) (hz : i.zero = some z) (hsize : i.size = L.n) (hby : i.bytes = bytes) (hzs : z.cells.size = L.n) (hsz : 0 < L.n) (hb64 : bytes ≤ 64)
    (hsx : e.lookup sx = some (true, .one (Lay.sl L) l)) (hl : l.length ≤ 1000000) (hB : B ≤ w.heap.size)
    (hQ : ∀ v' w', Grows L enc B E F0 w' v' l → Below w.heap.size w w' → StE U N ((d, true, .both (.val v') (.one (Lay.sl L) l)) :: e) (And2 F0 (Sl v' (l.length * L.n))) (a.put (some d) v') w' Df → wpList P ops Q rest (a.put (some d) v') w') : wpList P ops Q (o :: rest) a w := by
  obtain ⟨A, cp, e1, hr, _⟩ := reads_of_sl hf (h.get sx hsx)
  have hby2 : (0 + l.length) * bytes ≤ 140737488355328 := Nat.le_trans (Nat.mul_le_mul (show 0 + l.length ≤ 1000000 by omega) hb64) (by decide)
  have hdN' : d < N := by simpa using hdN
  refine wpList_plain hgd fun K hK => ?_
  refine wp_append_any w (.const (.slice none 0 0)) (.tmp sx) T ho w.heap.size E i z L.n bytes ht hi hz hsize hby hzs hsz (.slice none 0 0) 0 [] rfl (World.ownsRow_nil _ _ _ _) w.heap.size A l.length cp _ e1 hr (hf.ones l) (by unfold maxLen; omega) hby2 (Nat.le_refl _) fun v' w' h2 h3 _ => hK _ _ ?_
  have hb := below_of_none h3
  obtain ⟨hG, hs⟩ := h.fresh (F0 := F0) (d := d) hf hu hF0 hb (by simpa using h2) hdN' hB
  rw [hd]
  exact hQ v' w' hG hb hs
/-- A call that gives a fresh row. -/
theorem fresh_step {ops : Array Oper} {rest : List Oper} {o : Oper} {α : Type} {L : Lay α} {enc : α → List Value} {B : Nat} {E : TypeId} {l : List α} {d : Nat} (f : FuncId) (A : List Operand) (hf : Flat L enc) (hu : ¬ U) (h : StE U N e F a w Df) (hF0 : ∀ k, F0 k → F k)
    (hr : CallRun P o A f) (hd : o.dst = some d) (hdN : decide (d < N) = true) (hgd : o.guard = none)
    (hc : Calls P f (A.map a.eval).toArray w fun e w' => ∃ v, e = .returned v ∧ w'.ownsRow w.heap.size E L.n v l.length (l.flatMap enc) ∧ Below w.heap.size w w') (hB : B ≤ w.heap.size)
    (hQ : ∀ v' w', Grows L enc B E F0 w' v' l → Below w.heap.size w w' → StE U N ((d, true, .both (.val v') (.one (Lay.sl L) l)) :: e) (And2 F0 (Sl v' (l.length * L.n))) (a.put (some d) v') w' Df → wpList P ops Q rest (a.put (some d) v') w') : wpList P ops Q (o :: rest) a w := by
  have hdN' : d < N := by simpa using hdN
  refine call_on f A (by simp [Region.wanted, hgd]) hr (hc.mono ?_)
  rintro _ w' ⟨v, rfl, h2, hb⟩
  obtain ⟨hG, hs⟩ := h.fresh (F0 := F0) (d := d) hf hu hF0 hb h2 hdN' hB
  refine ⟨v, rfl, ?_⟩
  rw [hd]
  exact hQ v w' hG hb hs
/-- A list grows by what a slice of its own holds. -/
theorem grow_steps {ops : Array Oper} {rest : List Oper} {o : Oper} {α : Type} {L : Lay α} {enc : α → List Value} {B : Nat} {T E : TypeId} {v : Value} {l l2 : List α} {y1 : Sym} {i : TypeInfo} {z : Value} {bytes d : Nat} (hf : Flat L enc) (sa sb : Nat) (hu : ¬ U) (h : StE U N e (And2 F0 (Sl v (l.length * L.n))) a w Df) (hG : Grows L enc B E F0 w v l)
    (ho : o.op = .call { callee := .builtin .append, args := #[.tmp sa, .tmp sb], argTypes := #[T, T] }) (hd : o.dst = some d) (hdN : decide (d < N) = true) (hgd : o.guard = none)
    (ht : P.underlying T = some (.slice E)) (hi : P.info? E = some i) (hz : i.zero = some z) (hsize : i.size = L.n) (hby : i.bytes = bytes) (hzs : z.cells.size = L.n) (hsz : 0 < L.n)
    (hsa : e.lookup sa = some (true, .both (.val v) y1)) (hsb : e.lookup sb = some (true, .both (.lits l2.length E (l2.flatMap enc)) (.one (Lay.sl L) l2))) (hB : B ≤ w.heap.size) (h63 : l.length + l2.length ≤ maxLen) (hbytes : (l.length + l2.length) * bytes ≤ 140737488355328)
    (hQ : ∀ v' w', Grows L enc B E F0 w' v' (l ++ l2) → w.grownBy w' v.ownBlock → w.heap.size ≤ w'.heap.size → StE U N ((d, true, .both (.val v') (.one (Lay.sl L) (l ++ l2))) :: e) (And2 F0 (Sl v' ((l ++ l2).length * L.n))) (a.put (some d) v') w' Df → wpList P ops Q rest (a.put (some d) v') w') : wpList P ops Q (o :: rest) a w := by
  have ea : a.eval (.tmp sa) = v := (h.get sa hsa).1
  obtain ⟨gl, el, hBl, hnl⟩ := (h.get sb hsb).1
  have hx : a.eval (.tmp sb) = .slice (some ⟨gl, 0, none⟩) l2.length l2.length := el
  have hnews : ∀ j u, (l2.flatMap enc)[j]? = some u → w.cell? ((⟨gl, 0, none⟩ : Addr).add j) = some u := fun j u hj => by
    rw [add_none, hBl.cell, ← hj]; simp
  have hll : (l2.flatMap enc).length = l2.length * L.n := hf.length l2
  refine wpList_plain hgd fun K hK => ?_
  obtain ⟨v', w', hr, h2, h3, _, h5⟩ := run_append_own_at (P := P) w B T o.type E i z L.n bytes ht hi hz hsize hby hzs hsz v l.length _ hG.own ⟨gl, 0, none⟩ l2.length l2.length _ hll hnews (hf.ones l2) h63 hbytes hB
  have hkp := append_keeps ht hi hz hsize hby hG.own hll hnews (hf.ones l2) h63 hbytes hr h2
  have hap : (l ++ l2).length = l.length + l2.length := List.length_append
  have hG' : Grows L enc B E F0 w' v' (l ++ l2) := ⟨by rw [hap, List.flatMap_append]; exact h2, fun g o hg hF => by
    rcases h5 with h5 | h5
    · exact hG.dis g o (h5 ▸ hg) hF
    · rw [h5] at hg; cases hg
      exact Nat.lt_irrefl _ (h.fok.lt (w.heap.size, o) (.inl hF))⟩
  have hF0' : FOK U F0 w' := ⟨fun k hk => Nat.lt_of_lt_of_le (h.fok.lt k (.inl hk)) h3.size, fun u => absurd u hu⟩
  have hkeep : Keeps (And2 F0 (Sl v (l.length * L.n))) w w' := ⟨h3.size, fun k hk hn => by
    by_cases hb : v.ownBlock = some k.1
    · refine hkp k.1 k.2 hb ?_
      rcases Nat.lt_or_ge k.2 (l.length * L.n) with h | h
      · exact h
      · exact absurd (.inr ⟨hb, h⟩) hn
    · exact World.cell?_of_block (h3.block k.1 hk fun e => hb e.symm), fun b hb hn => h3.block b hb fun e => hn (l.length * L.n) (.inr ⟨e.symm, Nat.le_refl _⟩)⟩
  have hsub : ∀ k : Cell, k.1 < w.heap.size → And2 F0 (Sl v' ((l ++ l2).length * L.n)) k → And2 F0 (Sl v (l.length * L.n)) k := fun k hk h' => by
    rcases h' with h' | ⟨h1, h4⟩
    · exact .inl h'
    · rcases h5 with h5 | h5
      · exact .inr ⟨h5 ▸ h1, Nat.le_trans (Nat.mul_le_mul_right _ (by omega)) h4⟩
      · rw [h5] at h1; injection h1 with h1; omega
  have hst : StE U N e (And2 F0 (Sl v' ((l ++ l2).length * L.n))) a w' Df := ⟨h.size, h.defers, hG'.fok hu hF0', fun s k hs => (h.known s k hs).mono hkeep hsub⟩
  have hdN' : d < N := by simpa using hdN
  unfold Oper.wp execOp
  simp only [ho, resolve, invoke, builtin, Sem.run_bind, Sem.run_pure, Result.andThen_ok, List.map_toArray, List.map_cons, List.map_nil, ea, hx, hr]
  have hfin := hQ v' w' hG' h3 h3.size (hst.put (Below.refl _ _) hdN' ⟨fun _ => ⟨rfl, hG'.sl hf⟩, fun e => by cases e⟩)
  refine hK _ _ ?_
  rw [hd]
  exact hfin
/-- What was known ahead of a region is known behind it, off the region's own rows, too. -/
def Again (e1 e : Env) : Env → Prop
  | [] => True
  | (s, k) :: t => ((∃ x y, k = (true, .both (.val x) y) ∧ e1.lookup s = some k ∧ e.lookup s = some k) ∨ (∃ x, k = (true, .val x) ∧ e.lookup s = some k)) ∧ Again e1 e t
theorem ag {e1 e e2 : Env} (s : Nat) {x : Value} {y : Sym} (h1 : e1.lookup s = some (true, .both (.val x) y)) (h : e.lookup s = some (true, .both (.val x) y)) (hr : Again e1 e e2) : Again e1 e ((s, true, .both (.val x) y) :: e2) := ⟨.inl ⟨x, y, rfl, h1, h⟩, hr⟩
theorem av {e1 e e2 : Env} (s : Nat) {x : Value} (h : e.lookup s = some (true, .val x)) (hr : Again e1 e e2) : Again e1 e ((s, true, .val x) :: e2) := ⟨.inr ⟨x, rfl, h⟩, hr⟩
theorem an {e1 e : Env} : Again e1 e [] := True.intro
theorem StE.again {e1 e2 : Env} {F1 F' : Cell → Prop} {a1 : Act} {w1 : World} (h1 : StE U N e1 F1 a1 w1 Df) (h : StE U N e F a w Df) (hb : Below w1.heap.size w1 w) (hF' : FOK U F' w) (hsub : ∀ k : Cell, k.1 < w1.heap.size → F' k → F1 k) (ho : Again e1 e e2) : StE U N e2 F' a w Df := by
  refine ⟨h.size, h.defers, hF', fun s k hk => ?_⟩
  induction e2 with
  | nil => cases hk
  | cons p t ih =>
    obtain ⟨s', k'⟩ := p
    rw [List.lookup_cons] at hk
    cases hs : s == s' with
    | false => rw [hs] at hk; exact ih ho.2 hk
    | true =>
      rw [hs] at hk
      simp at hk hs
      subst hs hk
      rcases ho.1 with ⟨x, y, rfl, l1, l2⟩ | ⟨x, rfl, l2⟩
      · have g1 := h1.get s l1
        have g2 := (h.get s l2).1
        refine ⟨fun _ => ⟨g2, ?_⟩, fun e => by cases e⟩
        rw [show a.tmps.getD s undef = x from g2]
        rw [show a1.tmps.getD s undef = x from g1.1] at g1
        exact y.mono g1.2 (.of hb) hsub
      · exact ⟨fun _ => h.get s l2, fun e => by cases e⟩
/-- append(nil, l..) as a row of its own. -/
theorem p_copyOwn {ops : Array Oper} {d : Nat} {t : TypeId} {p : String} {af : Array Edge} {g : Option (Nat × Bool)} {c : Bool} {x : Operand} {T E : TypeId} {α : Type} {L : Lay α} {enc : α → List Value} {B : Nat} {l : List α} {i : TypeInfo} {z : Value} {bytes : Nat} (hf : Flat L enc) (ht : P.underlying T = some (.slice E)) (hi : P.info? E = some i) (hz : i.zero = some z) (hsize : i.size = L.n) (hby : i.bytes = bytes) (hzs : z.cells.size = L.n) (hsz : 0 < L.n) (hb64 : bytes ≤ 64) (hl : l.length ≤ 1000000)
    (hg : GdE ops e g c) (hx : OpdE e c x (.both (.past B) (.one (Lay.sl L) l))) : Pays U P ops Q N e ⟨some d, .call { callee := .builtin .append, args := #[.const (.slice none 0 0), x], argTypes := #[T, T] }, t, p, af, g⟩ (c, .both (.own B E L.n l.length (l.flatMap enc)) (.one (Lay.sl L) l)) :=
  pOf hg fun e a w F hF hk R hR => by
    have h1 := hx a w F (fun s hs => hk s (by simp [Op.operands, Call.operands, hs])) e
    obtain ⟨A, cp, e1, hr, _⟩ := reads_of_sl hf h1.2
    have hby2 : (0 + l.length) * bytes ≤ 140737488355328 := Nat.le_trans (Nat.mul_le_mul (show 0 + l.length ≤ 1000000 by omega) hb64) (by decide)
    refine wp_append_any w (.const (.slice none 0 0)) x T rfl w.heap.size E i z L.n bytes ht hi hz hsize hby hzs hsz (.slice none 0 0) 0 [] rfl (World.ownsRow_nil _ _ _ _) w.heap.size A l.length cp _ e1 hr (hf.ones l) (by unfold maxLen; omega) hby2 (Nat.le_refl _) fun v' w' h2 h3 _ => ?_
    have ho : w'.ownsRow w.heap.size E L.n v' l.length (l.flatMap enc) := by simpa using h2
    have hfr : ∀ g o, v'.ownBlock = some g → ¬ F (g, o) := fun g o hg hf => by
      have := own_base ho hg
      have := hF.lt (g, o) hf
      simp only at this
      omega
    exact hR v' w' (below_of_none h3) ⟨⟨own_mono ho h1.1, hfr⟩, sl_of_own hf ho fun g o hg _ => hfr g o hg⟩
/-- A fresh row of a region grows at the region's end. -/
theorem own_grow {ops : Array Oper} {rest : List Oper} {o : Oper} {α : Type} {L : Lay α} {enc : α → List Value} {B : Nat} {T E : TypeId} {l l2 : List α} {y1 y2 : Sym} {i : TypeInfo} {z : Value} {bytes d : Nat} {e1 e2 : Env} {F1 : Cell → Prop} {a1 : Act} {w1 : World} (hf : Flat L enc) (sa sb : Nat) (hu : ¬ U) (h1 : StE U N e1 F1 a1 w1 Df) (h : StE U N e F a w Df) (hb : Below w1.heap.size w1 w) (hF0 : ∀ k, F0 k → F1 k)
    (ho : o.op = .call { callee := .builtin .append, args := #[.tmp sa, .tmp sb], argTypes := #[T, T] }) (hd : o.dst = some d) (hdN : decide (d < N) = true) (hgd : o.guard = none)
    (ht : P.underlying T = some (.slice E)) (hi : P.info? E = some i) (hz : i.zero = some z) (hsize : i.size = L.n) (hby : i.bytes = bytes) (hzs : z.cells.size = L.n) (hsz : 0 < L.n)
    (hsa : e.lookup sa = some (true, .both (.own w1.heap.size E L.n l.length (l.flatMap enc)) y1)) (hsb : e.lookup sb = some (true, .both (.lits l2.length E (l2.flatMap enc)) y2)) (hag : Again e1 e e2) (hB : B ≤ w1.heap.size) (h63 : l.length + l2.length ≤ maxLen) (hbytes : (l.length + l2.length) * bytes ≤ 140737488355328)
    (hQ : ∀ v' w', Grows L enc B E F0 w' v' (l ++ l2) → Below w1.heap.size w1 w' → StE U N ((d, true, .both (.val v') (.one (Lay.sl L) (l ++ l2))) :: e2) (And2 F0 (Sl v' ((l ++ l2).length * L.n))) (a.put (some d) v') w' Df → wpList P ops Q rest (a.put (some d) v') w') : wpList P ops Q (o :: rest) a w := by
  obtain ⟨hown, hnF⟩ := (h.get sa hsa).1
  obtain ⟨gl, el, hBl, hnl⟩ := (h.get sb hsb).1
  obtain ⟨v, ea⟩ : ∃ v, a.tmps.getD sa undef = v := ⟨_, rfl⟩
  rw [ea] at hown
  have ea : a.eval (.tmp sa) = v := ea
  have hx : a.eval (.tmp sb) = .slice (some ⟨gl, 0, none⟩) l2.length l2.length := el
  have hnews : ∀ j u, (l2.flatMap enc)[j]? = some u → w.cell? ((⟨gl, 0, none⟩ : Addr).add j) = some u := fun j u hj => by
    rw [add_none, hBl.cell, ← hj]; simp
  have hll : (l2.flatMap enc).length = l2.length * L.n := hf.length l2
  have hw : w1.heap.size ≤ w.heap.size := hb.size
  refine wpList_plain hgd fun K hK => ?_
  obtain ⟨v', w', hr, h2, h3, _, h5⟩ := run_append_own_at (P := P) w w1.heap.size T o.type E i z L.n bytes ht hi hz hsize hby hzs hsz v l.length _ hown ⟨gl, 0, none⟩ l2.length l2.length _ hll hnews (hf.ones l2) h63 hbytes hw
  have hap : (l ++ l2).length = l.length + l2.length := List.length_append
  have hown' : w'.ownsRow w1.heap.size E L.n v' (l ++ l2).length ((l ++ l2).flatMap enc) := by rw [hap, List.flatMap_append]; exact h2
  have hb' : Below w1.heap.size w1 w' := hb.grown h3 hb.size fun k e => own_base hown e
  have hG' : Grows L enc B E F0 w' v' (l ++ l2) := ⟨own_mono hown' hB, fun g o hg hF => by
    have := own_base hown' hg
    have := h1.fok.lt (g, o) (hF0 _ hF)
    simp only at this
    omega⟩
  have hF0' : FOK U F0 w' := (h1.fok.sub hF0).below hb'
  have hsub : ∀ k : Cell, k.1 < w1.heap.size → And2 F0 (Sl v' ((l ++ l2).length * L.n)) k → F1 k := fun k hk h' => by
    rcases h' with h' | ⟨h1, _⟩
    · exact hF0 k h'
    · have := own_base hown' h1; omega
  have hst : StE U N e2 (And2 F0 (Sl v' ((l ++ l2).length * L.n))) a w' Df := by
    refine ⟨h.size, h.defers, hG'.fok hu hF0', fun s k hk => ?_⟩
    have key2 : ∀ e2 : Env, Again e1 e e2 → e2.lookup s = some k → KnownV k w' (And2 F0 (Sl v' ((l ++ l2).length * L.n))) (a.tmps.getD s undef) := by
      intro e2
      induction e2 with
      | nil => intro _ hk; cases hk
      | cons p t ih =>
        intro hag hk
        obtain ⟨s', k'⟩ := p
        rw [List.lookup_cons] at hk
        cases hs : s == s' with
        | false => rw [hs] at hk; exact ih hag.2 hk
        | true =>
          rw [hs] at hk
          simp at hk hs
          subst hs hk
          rcases hag.1 with ⟨x, y, rfl, l1, l2⟩ | ⟨x, rfl, l2⟩
          · have g1 := h1.get s l1
            have g2 := (h.get s l2).1
            refine ⟨fun _ => ⟨g2, ?_⟩, fun e => by cases e⟩
            rw [show a.tmps.getD s undef = x from g2]
            rw [show a1.tmps.getD s undef = x from g1.1] at g1
            exact y.mono g1.2 (.of hb') hsub
          · exact ⟨fun _ => h.get s l2, fun e => by cases e⟩
    exact key2 e2 hag hk
  have hdN' : d < N := by simpa using hdN
  unfold Oper.wp execOp
  simp only [ho, resolve, invoke, builtin, Sem.run_bind, Sem.run_pure, Result.andThen_ok, List.map_toArray, List.map_cons, List.map_nil, ea, hx, hr]
  have hfin := hQ v' w' hG' hb' (hst.put (Below.refl _ _) hdN' ⟨fun _ => ⟨rfl, hG'.sl hf⟩, fun e => by cases e⟩)
  refine hK _ _ ?_
  rw [hd]
  exact hfin
end
end Go.Proofs.Ytbeeiecbbmiojaa.Y
