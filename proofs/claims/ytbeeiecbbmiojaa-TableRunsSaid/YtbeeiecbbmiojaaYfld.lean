/- Variables known by their layout whose fields are stored to, in the text's order or in any; lists that grow by things that hold rows themselves. No program in sight. -/
import Derived.Test.YtbeeiecbbmiojaaYcall
namespace Go.Proofs.Ytbeeiecbbmiojaa.Y
open Go.RowKit
variable {Df : List Deferred}

/-- A field that may be laid anew. -/
def PartW {α β : Type} (L : Lay α) (L' : Lay β) (off : Nat) (up : α → β → α) : Prop := ∀ {w : World} {F : Cell → Prop} {cs c' : List Value} {x : α} {b : β}, L.on w F cs x → L'.on w F c' b → ∃ c1 c2 c3, cs = c1 ++ (c2 ++ c3) ∧ c1.length = off ∧ c2.length = L'.n ∧ L.on w F (c1 ++ (c' ++ c3)) (up x b)
theorem PartW.self {α : Type} (L : Lay α) : PartW L L 0 (fun _ b => b) := fun {_ _ cs c' _ _} h h' => ⟨[], cs, [], by simp, rfl, L.len h, by simpa using h'⟩
theorem PartW.fst {α β γ : Type} {A : Lay α} {B : Lay β} {L : Lay γ} {off : Nat} {up : α → γ → α} (h : PartW A L off up) : PartW (A.pr B) L off (fun x b => (up x.1 b, x.2)) := by
  rintro w F cs c' x b ⟨c1, c2, rfl, h1, h2⟩ h3
  obtain ⟨d1, d2, d3, rfl, e2, e3, e4⟩ := h h1 h3
  exact ⟨d1, d2, d3 ++ c2, by simp, e2, e3, d1 ++ (c' ++ d3), c2, by simp, e4, h2⟩
theorem PartW.snd {α β γ : Type} {A : Lay α} {B : Lay β} {L : Lay γ} {off : Nat} {up : β → γ → β} (h : PartW B L off up) : PartW (A.pr B) L (A.n + off) (fun x b => (x.1, up x.2 b)) := by
  rintro w F cs c' x b ⟨c1, c2, rfl, h1, h2⟩ h3
  obtain ⟨d1, d2, d3, rfl, e2, e3, e4⟩ := h h2 h3
  exact ⟨c1 ++ d1, d2, d3, by simp, by rw [List.length_append, A.len h1, e2], e3, c1, d1 ++ (c' ++ d3), by simp, h1, e4⟩
theorem PartW.via {α β γ : Type} {A : Lay α} {L : Lay γ} {off : Nat} {up : α → γ → α} {g : β → α} (h : PartW A L off up) (up' : β → γ → β) (hg : ∀ x b, g (up' x b) = up (g x) b) : PartW (A.via g) L off up' := by
  intro w F cs c' x b hx hb
  obtain ⟨c1, c2, c3, e1, e2, e3, e4⟩ := h hx hb
  refine ⟨c1, c2, c3, e1, e2, e3, ?_⟩
  show A.on w F _ (g (up' x b))
  rw [hg]; exact e4
theorem PartW.cast {α γ : Type} {A : Lay α} {L : Lay γ} {off off' : Nat} {up : α → γ → α} (h : PartW A L off up) (ho : off = off') : PartW A L off' up := ho ▸ h

/-- What is known of a value, as the cells that a store lays. -/
def Sto {β : Type} (y : Sym) (L' : Lay β) (b : β) : Prop := ∀ {w : World} {F : Cell → Prop} {v : Value}, y.on w F v → ∃ cs : List Value, v.cells = cs.toArray ∧ L'.on w F cs b
theorem one_cells {v : Value} (h : v.oneCell' = true) : v.cells = #[v] := by
  cases v <;> first | rfl | (simp [Value.oneCell'] at h)
theorem sto_st {β : Type} {L : Lay β} {b : β} : Sto (.st L b) L b := by
  rintro w F v ⟨cs, rfl, h⟩
  exact ⟨cs, rfl, h⟩
theorem sto_one {β : Type} {L : Lay β} {b : β} : Sto (.one L b) L b := fun {w F v} h => ⟨[v], one_cells (L.one h v (by simp)), h⟩
theorem sto_int {k : IntKind} {n : Int} : Sto (.int k n) (Lay.int k) n := by
  rintro w F v rfl
  exact ⟨[.int k n], rfl, rfl⟩
theorem sto_bool {b : Bool} : Sto (.bool b) Lay.bool b := by
  rintro w F v rfl
  exact ⟨[.bool b], rfl, rfl⟩
theorem sto_both {β : Type} {L : Lay β} {b : β} {y1 y2 : Sym} (h : Sto y2 L b) : Sto (.both y1 y2) L b := fun hv => h hv.2

section
variable {P : Program} {Q : Exit → Act → World → Prop} {a : Act} {w : World}
/-- A run of cells is stored. -/
theorem wp_store_cells {R : Act → World → Prop} {op : Oper} (ty : TypeId) (x y : Operand) (ho : op.op = .store ty x y)
    (b o : Nat) (vs : List Value) (hx : a.eval x = .pointer (some ⟨b, o, none⟩)) (hvc : (a.eval y).cells = vs.toArray) (hc : ∀ j, j < vs.length → (w.cell? ⟨b, o + j, none⟩).isSome = true) (hf : ∀ j, j < vs.length → w.frozen? ⟨b, o + j, none⟩ = false) (hi : (P.info? ty).map (·.size) = some vs.length) (h1 : ∀ u ∈ vs, u.oneCell' = true)
    (h : R (a.put op.dst undef) (w.setCells b o vs)) : op.wp P a w R Q := by
  have := run_storeCells_cells (P := P) b o vs 0 w (by simpa using hc) (by simpa using hf) h1
  unfold Oper.wp execOp
  cases hq : P.info? ty with
  | none => simp [hq] at hi
  | some i =>
    have hs : i.size = vs.length := by simpa [hq] using hi
    simp only [Nat.add_zero] at this
    have hr : (storeVar ty ⟨b, o, none⟩ (a.eval y)).run P w = .ok () (w.setCells b o vs) := by
      simp [storeVar, sizeOf, typeInfo, hq, hvc, hs, this]
    simp only [ho, hx, Instr.storeAt, Instr.sureAddr, Sem.run_bind, Sem.run_pure, Result.andThen_ok, hr]
    exact h
end
theorem over_at (c1 c2 c3 vs : List Value) (h : c2.length = vs.length) : over (c1 ++ (c2 ++ c3)).toArray c1.length vs = (c1 ++ (vs ++ c3)).toArray := by
  unfold over
  congr 1
  simp only [List.take_left, List.append_assoc, List.append_cancel_left_eq]
  rw [← List.drop_drop, List.drop_left, ← h, List.drop_left]
section
variable {P : Program} {U : Prop} {Q : Exit → Act → World → Prop} {N : Nat} {e : Env} {F : Cell → Prop} {a : Act} {w : World}
/-- A field of a block that may be written is laid anew. -/
theorem fld_wp {R : Act → World → Prop} {o : Oper} {g off : Nat} {T Tg : TypeId} {α : Type} {L : Lay α} {z : α} {cs : Array Value} {c1 c2 c3 vs : List Value} {xo yo : Operand} (ho : o.op = .store T xo yo) (hx : a.eval xo = .pointer (some ⟨g, off, none⟩)) (hy : (a.eval yo).cells = vs.toArray)
    (hB : Blk w g Tg cs) (hcs : cs.toList = c1 ++ (c2 ++ c3)) (h1 : c1.length = off) (h2 : c2.length = vs.length) (hn : (P.info? T).map (·.size) = some vs.length) (hL : L.on w F (c1 ++ (vs ++ c3)) z) (hF : ∀ o, F (g, o))
    (hR : ∀ cs' w', Blk w' g Tg cs' → L.on w' F cs'.toList z → w.grownBy w' (some g) → w'.heap.size = w.heap.size → R (a.put o.dst undef) w') : o.wp P a w R Q := by
  have hsz : cs.size = off + (vs.length + c3.length) := by
    have := congrArg List.length hcs
    simp [h1, h2] at this
    omega
  have hone : ∀ u ∈ vs, u.oneCell' = true := fun u hu => L.one hL u (by simp [hu])
  have hce : ∀ j, j < vs.length → (w.cell? ⟨g, off + j, none⟩).isSome = true := fun j hj => by
    rw [hB.cell, Array.getElem?_eq_getElem (by omega)]; rfl
  refine wp_store_cells T xo yo ho g off vs hx hy hce (fun j hj => hB.frozen _) hn hone ?_
  have hB' := hB.setCells vs off (by omega)
  have eo : over cs off vs = (c1 ++ (vs ++ c3)).toArray := by
    rw [← over_at c1 c2 c3 vs h2, ← hcs, h1]
  rw [eo] at hB'
  have G : w.grownBy (w.setCells g off vs) (some g) := only_setCells vs off (only_refl w (some g))
  have hs : (w.setCells g off vs).heap.size = w.heap.size := by
    have : ∀ (vs : List Value) (o : Nat) (w : World), (w.setCells g o vs).heap.size = w.heap.size := by
      intro vs
      induction vs with
      | nil => intro o w; rfl
      | cons v vs ih => intro o w; rw [World.setCells, ih]; simp [World.setCell]
    exact this vs off w
  exact hR _ _ hB' (by simpa using L.mono hL (keeps_setCells hF) fun _ _ h => h) G hs
theorem nou_cells {g : Nat} {T : TypeId} {cs : Array Value} {w : World} (hB : Blk w g T cs) (h : ∀ x : Int, Value.int .u32 x ∉ cs.toList) (o : Nat) (x : Int) : w.cell? ⟨g, o, none⟩ ≠ some (.int .u32 x) := by
  rw [hB.cell]
  intro hh
  exact h x (List.mem_of_getElem? (by simpa using hh))
/-- The same, as a step of a walk in the text's order. -/
theorem fld_step {ops : Array Oper} {rest : List Oper} {o : Oper} {g off : Nat} {T Tg : TypeId} {α β : Type} {L : Lay α} {L' : Lay β} {x : α} {b : β} {up : α → β → α} {y : Sym} {cs : Array Value} {xo yo : Operand} (h : StE U N e F a w Df) (ho : o.op = .store T xo yo) (hd : o.dst = none) (hgd : o.guard = none)
    (hx : OpdE e true xo (.val (.pointer (some ⟨g, off, none⟩)))) (hy : OpdE e true yo y) (hs : Sto y L' b) (hB : Blk w g Tg cs) (hL : L.on w F cs.toList x) (hP : PartW L L' off up) (hn : (P.info? T).map (·.size) = some L'.n) (hF : ∀ o, F (g, o)) (hu : U → ∀ {w : World} {F : Cell → Prop} {cs : List Value}, L.on w F cs (up x b) → ∀ y : Int, Value.int .u32 y ∉ cs)
    (hQ : ∀ cs' a' w', Blk w' g Tg cs' → L.on w' F cs'.toList (up x b) → w.grownBy w' (some g) → StE U N e F a' w' Df → wpList P ops Q rest a' w') : wpList P ops Q (o :: rest) a w := by
  have kx := hx a w F (fun s _ => h.known s) rfl
  obtain ⟨c', e1, e2⟩ := hs (hy a w F (fun s _ => h.known s) rfl)
  obtain ⟨c1, c2, c3, e3, e4, e5, e6⟩ := hP hL e2
  have el := L'.len e2
  refine wpList_plain hgd fun K hK => ?_
  refine fld_wp ho kx e1 hB e3 e4 (by rw [e5, el]) (by rw [hn, el]) e6 hF fun cs' w' hB' hL' hG _ => hK _ _ ?_
  rw [hd]
  exact hQ cs' _ w' hB' hL' hG (h.wroteB hG hF fun u => nou_cells hB' (hu u hL'))

/-- The value of a block of one's own is loaded. -/
theorem ldrow_on {ops : Array Oper} {rest : List Oper} {o : Oper} {g d : Nat} {T Tg : TypeId} {α : Type} {L : Lay α} {x : α} {cs : Array Value} {ty : TypeDesc} {xo : Operand} (h : StE U N e F a w Df) (ho : o.op = .load T xo) (hd : o.dst = some d) (hdN : decide (d < N) = true) (hgd : o.guard = none)
    (hx : OpdE e true xo (.val (.pointer (some ⟨g, 0, none⟩)))) (hB : Blk w g Tg cs) (hL : L.on w F cs.toList x) (hu : P.underlying T = some ty) (hr : ty.isRow = true) (hn : (P.info? T).map (·.size) = some L.n)
    (hQ : ∀ a', StE U N ((d, true, .both (.val (.agg cs)) (.st L x)) :: e) F a' w Df → wpList P ops Q rest a' w) : wpList P ops Q (o :: rest) a w := by
  have kx := hx a w F (fun s _ => h.known s) rfl
  refine wpList_plain hgd fun K hK => ?_
  refine wp_load_mid T xo ho g 0 kx cs.toList ty (fun j v hv => by rw [Nat.zero_add, hB.cell]; simpa using hv) hu hr (by rw [hn, ← L.len hL]) (hK _ _ ?_)
  rw [hd]
  exact hQ _ (h.put (Below.refl _ _) (by simpa using hdN) ⟨fun _ => ⟨rfl, cs.toList, rfl, hL⟩, fun e => by cases e⟩)
/-- One cell of it. -/
theorem ldcell_on {ops : Array Oper} {rest : List Oper} {o : Oper} {g k d : Nat} {Tg : TypeId} {cs : Array Value} {v : Value} {xo : Operand} {y : Sym} (h : StE U N e F a w Df) (hd : o.dst = some d) (hdN : decide (d < N) = true) (hgd : o.guard = none)
    (hr : ∀ (ev : Operand → Value) (w : World) (b off : Nat) (v : Value), ev xo = .pointer (some ⟨b, off, none⟩) → w.cell? ⟨b, off, none⟩ = some v → (execOp ev o).run P w = .ok (.value v) w)
    (hx : OpdE e true xo (.val (.pointer (some ⟨g, k, none⟩)))) (hB : Blk w g Tg cs) (hv : cs[k]? = some v) (hy : y.on w F v)
    (hQ : ∀ a', StE U N ((d, true, .both (.val v) y) :: e) F a' w Df → wpList P ops Q rest a' w) : wpList P ops Q (o :: rest) a w := by
  have kx := hx a w F (fun s _ => h.known s) rfl
  refine wpList_plain hgd fun K hK => ?_
  unfold Oper.wp
  rw [hr _ w g k v kx (by rw [hB.cell]; exact hv)]
  refine hK _ _ ?_
  rw [hd]
  exact hQ _ (h.put (Below.refl _ _) (by simpa using hdN) ⟨fun _ => ⟨rfl, hy⟩, fun e => by cases e⟩)
end

/-- One thing in a block of its own. -/
def Sym.litL {α : Type} (E : TypeId) (L : Lay α) (x : α) : Sym := ⟨fun w F v => ∃ g cs, v = .slice (some ⟨g, 0, none⟩) 1 1 ∧ Blk w g E cs ∧ L.on w F cs.toList x ∧ ∀ o, ¬ F (g, o), by
  rintro w w' F F' v ⟨g, cs, e, h1, h2, h3⟩ hk hF
  exact ⟨g, cs, e, (hk.whole g h1.lt h3).trans h1, L.mono h2 hk hF, fun o hf => h3 o (hF (g, o) h1.lt hf)⟩⟩
theorem litL_sl {α : Type} {L : Lay α} {x : α} {E : TypeId} {w : World} {F : Cell → Prop} {v : Value} (h : (Sym.litL E L x).on w F v) : (Sym.one (Lay.sl L) [x]).on w F v := by
  obtain ⟨g, cs, rfl, h1, hL, h2⟩ := h
  refine ⟨some ⟨g, 0, none⟩, 1, rfl, fun _ => ⟨g, 0, rfl, h1.lt, fun i hi => ?_⟩, by simp⟩
  obtain rfl : i = 0 := by simp at hi; exact hi
  refine ⟨cs.toList, hL, fun j hj => ⟨h2 _, ?_⟩⟩
  rw [h1.cell]; simp
section
variable {U : Prop} {P : Program} {ops : Array Oper} {Q : Exit → Act → World → Prop} {N : Nat} {e : Env} {d : Nat} {t : TypeId} {p : String} {af : Array Edge} {g : Option (Nat × Bool)} {c : Bool} {x : Operand}
theorem p_litL {α : Type} {L : Lay α} {z : α} {T E : TypeId} (hr : BsRun P ⟨some d, .buildSlice T 1 #[(0, x)], t, p, af, g⟩ x L.n E) (hg : GdE ops e g c) (hx : OpdE e c x (.st L z)) : Pays U P ops Q N e ⟨some d, .buildSlice T 1 #[(0, x)], t, p, af, g⟩ (c, .both (.litL E L z) (.one (Lay.sl L) [z])) :=
  pOf hg fun e a w F hF hk R hR => by
    obtain ⟨cs, h1, h2⟩ := hx a w F (fun s hs => hk s (by simp [Op.operands, hs])) e
    have hb : Below w.heap.size w (w.alloc (.cells cs.toArray E)) := (Below.refl _ _).alloc (Nat.le_refl _) _
    have hB := Blk.new w E cs.toArray
    have hl : (Sym.litL E L z).on (w.alloc (.cells cs.toArray E)) F (.slice (some ⟨w.heap.size, 0, none⟩) 1 1) := ⟨w.heap.size, _, rfl, hB, by simpa using L.mono h2 (.of hb) fun _ _ h => h, fun o h => Nat.lt_irrefl _ (hF.lt _ h)⟩
    unfold Oper.wp
    rw [hr _ w cs.toArray h1 (by simp [L.len h2])]
    exact hR _ _ hb ⟨hl, litL_sl hl⟩
end

/-- A list of such things that grows, off the cells of F0. -/
structure GrowsL {α : Type} (U : Prop) (L : Lay α) (B : Nat) (E : TypeId) (F0 : Cell → Prop) (w : World) (v : Value) (l : List α) : Prop where
  row : ∃ cs, w.ownsRow B E L.n v l.length cs ∧ RowOn L w (And2 F0 (Sl v (l.length * L.n))) cs l
  dis : ∀ g o, v.ownBlock = some g → ¬ F0 (g, o)
  nou : U → ∀ g, v.ownBlock = some g → ∀ o x, w.cell? ⟨g, o, none⟩ ≠ some (.int .u32 x)
section
variable {α : Type} {U : Prop} {L : Lay α} {B : Nat} {E : TypeId} {F0 : Cell → Prop} {w w' : World} {v : Value} {l : List α}
theorem GrowsL.nil : GrowsL U L B E F0 w (.slice none 0 0) ([] : List α) := ⟨⟨[], World.ownsRow_nil _ _ _ _, rfl⟩, (fun g o h => by cases h), (fun _ g h => by cases h)⟩
theorem GrowsL.lt (h : GrowsL U L B E F0 w v l) {g : Nat} (hg : v.ownBlock = some g) : B ≤ g ∧ g < w.heap.size := by
  obtain ⟨cs, h1, _⟩ := h.row
  exact h1.lt g hg
theorem RowOn.app {α : Type} {L : Lay α} {w : World} {F : Cell → Prop} {x : α} {c2 : List Value} (h2 : L.on w F c2 x) : ∀ {l : List α} {c1 : List Value}, RowOn L w F c1 l → RowOn L w F (c1 ++ c2) (l ++ [x])
  | [], _, h => by
    simp [RowOn] at h
    subst h
    exact ⟨c2, [], by simp, h2, rfl⟩
  | y :: t, _, ⟨d1, d2, h0, h1, h3⟩ => ⟨d1, d2 ++ c2, by rw [h0, List.append_assoc], h1, h3.app h2⟩
theorem GrowsL.keep (h : GrowsL U L B E F0 w v l) (hk : Keeps (And2 F0 (Sl v (l.length * L.n))) w w') (hb : ∀ g, v.ownBlock = some g → w'.heap[g]? = w.heap[g]?) : GrowsL U L B E F0 w' v l := by
  obtain ⟨cs, h1, h2⟩ := h.row
  refine ⟨⟨cs, ⟨h1.1, ?_⟩, h2.mono hk fun _ _ h => h⟩, h.dis, fun u g hg o x => ?_⟩
  · rcases h1.2 with h3 | ⟨g, c, cur, e, h4, h5, r⟩
    · exact .inl h3
    · exact .inr ⟨g, c, cur, e, h4, (hb g (by rw [e]; rfl)).trans h5, r⟩
  · rw [show w'.cell? ⟨g, o, none⟩ = w.cell? ⟨g, o, none⟩ from World.cell?_of_block (hb g hg)]
    exact h.nou u g hg o x
theorem GrowsL.below (h : GrowsL U L B E F0 w v l) (hb : Below w.heap.size w w') : GrowsL U L B E F0 w' v l := h.keep (.of hb) fun g hg => hb.block g (h.lt hg).2
/-- Another block is written. -/
theorem GrowsL.wrote {g : Nat} (h : GrowsL U L B E F0 w v l) (hg : w.grownBy w' (some g)) (hF : ∀ o, F0 (g, o)) : GrowsL U L B E F0 w' v l := h.keep (keeps_grown hg fun o => .inl (hF o)) fun x hx => hg.block x (h.lt hx).2 fun e => by
  injection e with e
  exact h.dis x 0 hx (e ▸ hF 0)
theorem GrowsL.less {F1 : Cell → Prop} (h : GrowsL U L B E F0 w v l) (hF : ∀ k : Cell, F1 k → F0 k) : GrowsL U L B E F1 w v l := by
  obtain ⟨cs, h1, h2⟩ := h.row
  exact ⟨⟨cs, h1, h2.mono (.refl _ _) fun k _ hk => hk.imp (hF k) id⟩, fun g o hg hf => h.dis g o hg (hF _ hf), h.nou⟩
theorem GrowsL.more {F1 : Cell → Prop} (h : GrowsL U L B E F0 w v l) (hF : ∀ k : Cell, k.1 < w.heap.size → F1 k → F0 k) : GrowsL U L B E F1 w v l := by
  obtain ⟨cs, h1, h2⟩ := h.row
  exact ⟨⟨cs, h1, h2.mono (.refl _ _) fun k hk hf => hf.imp (hF k hk) id⟩, fun g o hg hf => h.dis g o hg (hF (g, o) (h.lt hg).2 hf), h.nou⟩
theorem GrowsL.sl (h : GrowsL U L B E F0 w v l) : (Sym.one (Lay.sl L) l).on w (And2 F0 (Sl v (l.length * L.n))) v := by
  obtain ⟨cs, h1, h2⟩ := h.row
  rcases h1.2 with ⟨rfl, h0⟩ | ⟨g, c, cur, rfl, _, hg, hnc, _, hs, ht⟩
  · obtain rfl := List.eq_nil_of_length_eq_zero h0
    exact ⟨none, 0, rfl, fun h => absurd h (by simp), Nat.le_refl _⟩
  · refine ⟨some ⟨g, 0, none⟩, c, rfl, fun hl => ⟨g, 0, rfl, Blk.lt (g := g) (cs := cur) (t := E) hg, fun i hi => ?_⟩, hnc⟩
    obtain ⟨c1, c2, c3, e1, e2, e3⟩ := h2.at i hi
    refine ⟨c2, e3, fun j hj => ?_⟩
    have h3 := L.len e3
    have hlt : i * L.n + j < l.length * L.n := by
      have h2 : (i + 1) * L.n ≤ l.length * L.n := Nat.mul_le_mul_right _ hi
      rw [Nat.succ_mul] at h2
      omega
    rw [Nat.zero_add]
    refine ⟨fun hf => ?_, ?_⟩
    · rcases hf with hf | ⟨_, hf⟩
      · exact h.dis g _ rfl hf
      · exact absurd hf (by simp only; omega)
    · have h6 : cs[i * L.n + j]? = some c2[j] := by
        rw [e1, List.getElem?_append_right (by omega), e2, show i * L.n + j - i * L.n = j by omega, List.getElem?_append_left hj]
        simp [hj]
      rw [← ht, List.getElem?_take, if_pos hlt] at h6
      rw [Blk.cell (t := E) (cs := cur) hg, ← h6]; simp
theorem GrowsL.fok (h : GrowsL U L B E F0 w v l) (hF : FOK U F0 w) : FOK U (And2 F0 (Sl v (l.length * L.n))) w := ⟨fun k hk => by
  rcases hk with h1 | ⟨h1, _⟩
  · exact hF.lt k h1
  · exact (h.lt h1).2, fun u k hk o x => by
  rcases hk with h1 | ⟨h1, _⟩
  · exact hF.nou u k h1 o x
  · exact h.nou u k.1 h1 o x⟩
end
/-- An append's row holds no label's number where the row, what comes and the type's nothing hold none. -/
theorem append_nou {P : Program} {w w' : World} {base : Nat} {t ty E : TypeId} {i : TypeInfo} {z : Value} {size bytes : Nat} (ht : P.underlying t = some (.slice E)) (hi : P.info? E = some i) (hz : i.zero = some z) (hsize : i.size = size) (hby : i.bytes = bytes) (hsz : 0 < size)
    {v v' : Value} {n : Nat} {xs : List Value} (hown : w.ownsRow base E size v n xs) {A : Addr} {m c : Nat} {news : List Value} (hm : 0 < m) (hl : news.length = m * size) (hnews : ∀ j u, news[j]? = some u → w.cell? (A.add j) = some u) (h1 : ∀ u ∈ news, u.oneCell' = true)
    (h63 : n + m ≤ maxLen) (hbytes : (n + m) * bytes ≤ 140737488355328) (hr : (Builtin.append_ #[t, t] ty #[v, .slice (some A) m c]).run P w = .ok v' w')
    (hz0 : ∀ x : Int, Value.int .u32 x ∉ z.cells.toList) (hn0 : ∀ x : Int, Value.int .u32 x ∉ news) (hnou : ∀ g, v.ownBlock = some g → ∀ o x, w.cell? ⟨g, o, none⟩ ≠ some (.int .u32 x)) :
    ∀ g, v'.ownBlock = some g → ∀ o x, w'.cell? ⟨g, o, none⟩ ≠ some (.int .u32 x) := by
  subst hsize hby
  have zer : ∀ (k : Nat) (x : Int), Value.int .u32 x ∉ (Builtin.zeroCells z.cells k).toList := fun k x hx => by
    unfold Builtin.zeroCells at hx
    simp only [Array.toList_map, List.mem_map] at hx
    obtain ⟨q, h2, h3⟩ := hx
    have hq : q < k * z.cells.size := by simpa using h2
    have hp : 0 < z.cells.size := by
      rcases Nat.eq_zero_or_pos z.cells.size with h0 | h0
      · rw [h0] at hq; omega
      · exact h0
    have hlt : q % z.cells.size < z.cells.size := Nat.mod_lt _ hp
    rw [getElem!_pos z.cells _ hlt] at h3
    exact hz0 x (by rw [← h3]; simp)
  have fresh : ∀ (cs : Array Value) (k : Nat), v' = .slice (some ⟨w.heap.size, 0, none⟩) (n + m) k → w' = w.drew.alloc (.cells cs E) → (∀ x : Int, Value.int .u32 x ∉ cs.toList) → ∀ g, v'.ownBlock = some g → ∀ o x, w'.cell? ⟨g, o, none⟩ ≠ some (.int .u32 x) := by
    intro cs k e1 e2 h g hg o x
    rw [e1] at hg
    obtain rfl : w.heap.size = g := by injection hg
    rw [e2]
    exact nou_cells (Blk.new w.drew E cs) h o x
  rcases hown.2 with ⟨rfl, rfl⟩ | ⟨g', cap, cur, rfl, hbg, hgc, hnc, hcm, hcs, htake⟩
  · have hr2 := run_append_nil (P := P) w t ty E i z ht hi hz A m c news hl hnews hm (by simp only [maxLen] at h63; omega) (by rw [Nat.zero_add] at hbytes; omega)
    rw [hr] at hr2
    injection hr2 with e2 e3
    refine fresh _ _ (by rw [e2, Nat.zero_add]) e3 fun x hx => ?_
    simp only [Array.toList_append, List.mem_append] at hx
    rcases hx with hx | hx
    · exact hn0 x (by simpa using hx)
    · exact zer _ x hx
  · have hcur : ∀ x : Int, Value.int .u32 x ∉ cur.toList := fun x hx => by
      obtain ⟨j, hj, e⟩ := List.getElem_of_mem hx
      refine hnou g' rfl j x ?_
      rw [Blk.cell (t := E) (cs := cur) hgc]
      simp only [Array.length_toList] at hj
      rw [Array.getElem?_eq_getElem hj]
      simpa using e
    have hcs' := hcs
    by_cases hroom : n + m ≤ cap
    · have hfit : n * i.size + news.length ≤ cur.size := by rw [hl, hcs, ← Nat.add_mul]; exact Nat.mul_le_mul_right _ hroom
      have hr2 := run_append_room (P := P) w t ty E i ht hi g' n cap cur hgc A m c news hl hnews h1 hroom hfit
      rw [hr] at hr2
      injection hr2 with e2 e3
      intro g hg o x
      rw [e2] at hg
      obtain rfl : g' = g := by injection hg
      rw [e3]
      refine nou_cells (g := g') (T := E) (setRow_heap w g' cur _ E (0, 0) hgc) (fun x hx => ?_) o x
      simp only [List.mem_append] at hx
      rcases hx with (hx | hx) | hx
      · exact hcur x (List.mem_of_mem_take hx)
      · exact hn0 x hx
      · exact hcur x (List.mem_of_mem_drop hx)
    · have holds : ∀ j u, xs[j]? = some u → w.cell? ((⟨g', 0, none⟩ : Addr).add j) = some u := hown.cells (g := g') rfl
      have hr2 := run_append_grow (P := P) w t ty E i z ht hi hz ⟨g', 0, none⟩ n cap xs hown.1 holds A m c news hl hnews (by omega) (by simp only [maxLen] at h63; omega) (growslice_fits (by omega) hbytes)
      rw [hr] at hr2
      injection hr2 with e2 e3
      refine fresh _ _ e2 e3 fun x hx => ?_
      simp only [Array.toList_append, List.mem_append] at hx
      rcases hx with (hx | hx) | hx
      · rw [← htake] at hx
        exact hcur x (List.mem_of_mem_take (by simpa using hx))
      · exact hn0 x (by simpa using hx)
      · exact zer _ x hx
section
variable {U : Prop} {P : Program} {Q : Exit → Act → World → Prop} {N : Nat} {e : Env} {F0 : Cell → Prop} {a : Act} {w : World}
/-- Such a list grows. -/
theorem growL_step {ops : Array Oper} {rest : List Oper} {o : Oper} {α : Type} {L : Lay α} {B : Nat} {T E : TypeId} {v : Value} {l : List α} {x : α} {y1 y2 : Sym} {i : TypeInfo} {z : Value} {bytes d : Nat} (sa sb : Nat) (h : StE U N e (And2 F0 (Sl v (l.length * L.n))) a w Df) (hG : GrowsL U L B E F0 w v l)
    (ho : o.op = .call { callee := .builtin .append, args := #[.tmp sa, .tmp sb], argTypes := #[T, T] }) (hd : o.dst = some d) (hdN : decide (d < N) = true) (hgd : o.guard = none)
    (ht : P.underlying T = some (.slice E)) (hi : P.info? E = some i) (hz : i.zero = some z) (hsize : i.size = L.n) (hby : i.bytes = bytes) (hzs : z.cells.size = L.n) (hsz : 0 < L.n)
    (hsa : e.lookup sa = some (true, .both (.val v) y1)) (hsb : e.lookup sb = some (true, .both (.litL E L x) y2)) (hB : B ≤ w.heap.size) (h63 : l.length + 1 ≤ maxLen) (hbytes : (l.length + 1) * bytes ≤ 140737488355328)
    (hz0 : U → ∀ y : Int, Value.int .u32 y ∉ z.cells.toList) (hx0 : U → ∀ {w : World} {F : Cell → Prop} {cs : List Value}, L.on w F cs x → ∀ y : Int, Value.int .u32 y ∉ cs)
    (hQ : ∀ v' a' w', GrowsL U L B E F0 w' v' (l ++ [x]) → w.grownBy w' v.ownBlock → (v'.ownBlock = v.ownBlock ∨ v'.ownBlock = some w.heap.size) → StE U N ((d, true, .both (.val v') (.one (Lay.sl L) (l ++ [x]))) :: e) (And2 F0 (Sl v' ((l ++ [x]).length * L.n))) a' w' Df → wpList P ops Q rest a' w') : wpList P ops Q (o :: rest) a w := by
  have ea : a.eval (.tmp sa) = v := (h.get sa hsa).1
  obtain ⟨gl, lc, el, hBl, hLl, hnl⟩ := (h.get sb hsb).1
  obtain ⟨cs, hown, hrow⟩ := hG.row
  have hx : a.eval (.tmp sb) = .slice (some ⟨gl, 0, none⟩) 1 1 := el
  have hnews : ∀ j u, lc.toList[j]? = some u → w.cell? ((⟨gl, 0, none⟩ : Addr).add j) = some u := fun j u hj => by
    rw [add_none, hBl.cell, ← hj]; simp
  have hll : lc.toList.length = 1 * L.n := by rw [L.len hLl]; omega
  refine wpList_plain hgd fun K hK => ?_
  obtain ⟨v', w', hr, h2, h3, _, h5⟩ := run_append_own_at (P := P) w B T o.type E i z L.n bytes ht hi hz hsize hby hzs hsz v l.length _ hown ⟨gl, 0, none⟩ 1 1 _ hll hnews (L.one hLl) h63 hbytes hB
  have hkp := append_keeps ht hi hz hsize hby hown hll hnews (L.one hLl) h63 hbytes hr h2
  have hnou : U → _ := fun u => append_nou ht hi hz hsize hby hsz hown (by omega) hll hnews (L.one hLl) h63 hbytes hr (hz0 u) (hx0 u hLl) (hG.nou u)
  have hap : (l ++ [x]).length = l.length + 1 := by simp
  have hkeep : Keeps (And2 F0 (Sl v (l.length * L.n))) w w' := ⟨h3.size, fun k hk hn => by
    by_cases hb : v.ownBlock = some k.1
    · refine hkp k.1 k.2 hb ?_
      rcases Nat.lt_or_ge k.2 (l.length * L.n) with h | h
      · exact h
      · exact absurd (.inr ⟨hb, h⟩) hn
    · exact World.cell?_of_block (h3.block k.1 hk fun e => hb e.symm), fun b hb hn => h3.block b hb fun e => hn (l.length * L.n) (.inr ⟨e.symm, Nat.le_refl _⟩)⟩
  have hsub : ∀ k : Cell, k.1 < w.heap.size → And2 F0 (Sl v' ((l ++ [x]).length * L.n)) k → And2 F0 (Sl v (l.length * L.n)) k := fun k hk h' => by
    rcases h' with h' | ⟨h1, h4⟩
    · exact .inl h'
    · rcases h5 with h5 | h5
      · exact .inr ⟨h5 ▸ h1, Nat.le_trans (Nat.mul_le_mul_right _ (by omega)) h4⟩
      · rw [h5] at h1; injection h1 with h1; omega
  have hG' : GrowsL U L B E F0 w' v' (l ++ [x]) := ⟨⟨cs ++ lc.toList, by rw [hap]; exact h2, (hrow.mono hkeep hsub).app (L.mono hLl hkeep hsub)⟩, fun g o hg hF => by
    rcases h5 with h5 | h5
    · exact hG.dis g o (h5 ▸ hg) hF
    · rw [h5] at hg; cases hg
      exact Nat.lt_irrefl _ (h.fok.lt (w.heap.size, o) (.inl hF)), hnou⟩
  have hF0 : FOK U F0 w := h.fok.sub fun k hk => .inl hk
  have hF0' : FOK U F0 w' := ⟨fun k hk => Nat.lt_of_lt_of_le (hF0.lt k hk) h3.size, fun u k hk o y => by
    have hne : v.ownBlock ≠ some k.1 := fun e => hG.dis k.1 k.2 e hk
    rw [show w'.cell? ⟨k.1, o, none⟩ = w.cell? ⟨k.1, o, none⟩ from World.cell?_of_block (h3.block k.1 (hF0.lt k hk) fun e => hne e.symm)]
    exact hF0.nou u k hk o y⟩
  have hst : StE U N e (And2 F0 (Sl v' ((l ++ [x]).length * L.n))) a w' Df := ⟨h.size, h.defers, hG'.fok hF0', fun s k hs => (h.known s k hs).mono hkeep hsub⟩
  have hdN' : d < N := by simpa using hdN
  unfold Oper.wp execOp
  simp only [ho, resolve, invoke, builtin, Sem.run_bind, Sem.run_pure, Result.andThen_ok, List.map_toArray, List.map_cons, List.map_nil, ea, hx, hr]
  refine hK _ _ ?_
  rw [hd]
  exact hQ v' _ w' hG' h3 h5 (hst.put (Below.refl _ _) hdN' ⟨fun _ => ⟨rfl, hG'.sl⟩, fun e => by cases e⟩)
end
end Go.Proofs.Ytbeeiecbbmiojaa.Y
