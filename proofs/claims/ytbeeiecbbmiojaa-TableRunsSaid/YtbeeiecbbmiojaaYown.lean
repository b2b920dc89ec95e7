/- Lists that grow; rows of a call's own; slices written out. No program in sight. -/
import Derived.Test.YtbeeiecbbmiojaaYwalk
import Derived.Test.YtbeeiecbbmiojaaOwn
namespace Go.Proofs.Ytbeeiecbbmiojaa.Y
open Go.RowKit
variable {Df : List Deferred}

/-- Things that lie in cells as they are. -/
def Flat {α : Type} (L : Lay α) (enc : α → List Value) : Prop := ∀ (w : World) (F : Cell → Prop) (cs : List Value) (x : α), L.on w F cs x ↔ cs = enc x
theorem Flat.int (k : IntKind) : Flat (Lay.int k) (fun x => [.int k x]) := fun _ _ _ _ => Iff.rfl
theorem Flat.bool : Flat Lay.bool (fun x => [.bool x]) := fun _ _ _ _ => Iff.rfl
theorem Flat.pr {α β : Type} {A : Lay α} {B : Lay β} {f : α → List Value} {g : β → List Value} (hA : Flat A f) (hB : Flat B g) : Flat (A.pr B) (fun x => f x.1 ++ g x.2) := fun w F cs x => by
  constructor
  · rintro ⟨c1, c2, rfl, h1, h2⟩
    rw [(hA _ _ _ _).1 h1, (hB _ _ _ _).1 h2]
  · intro h
    exact ⟨f x.1, g x.2, h, (hA _ _ _ _).2 rfl, (hB _ _ _ _).2 rfl⟩
theorem Flat.via {α β : Type} {A : Lay α} {f : α → List Value} (g : β → α) (hA : Flat A f) : Flat (A.via g) (fun x => f (g x)) := fun w F cs x => hA w F cs (g x)
section
variable {α : Type} {L : Lay α} {enc : α → List Value}
theorem Flat.len (h : Flat L enc) (x : α) : (enc x).length = L.n := L.len ((h (default : World) (fun _ => False) _ x).2 rfl)
theorem Flat.one (h : Flat L enc) (x : α) : ∀ u ∈ enc x, u.oneCell' = true := L.one ((h (default : World) (fun _ => False) _ x).2 rfl)
theorem Flat.length (h : Flat L enc) : ∀ l : List α, (l.flatMap enc).length = l.length * L.n
  | [] => by simp
  | x :: t => by rw [List.flatMap_cons, List.length_append, h.len, h.length t, List.length_cons, Nat.succ_mul]; omega
theorem Flat.ones (h : Flat L enc) (l : List α) : ∀ u ∈ l.flatMap enc, u.oneCell' = true := fun u hu => by
  obtain ⟨x, _, hx⟩ := List.mem_flatMap.1 hu
  exact h.one x u hx
theorem Flat.at (h : Flat L enc) : ∀ (l : List α) (i : Nat) (hi : i < l.length) (j : Nat) (hj : j < (enc l[i]).length), (l.flatMap enc)[i * L.n + j]? = some (enc l[i])[j]
  | x :: t, 0, _, j, hj => by
    rw [List.flatMap_cons, List.getElem?_append_left (by simpa using hj)]
    simp at hj ⊢
  | x :: t, i + 1, hi, j, hj => by
    have h1 := h.len x
    rw [List.flatMap_cons, List.getElem?_append_right (by rw [Nat.succ_mul]; omega), h1, show (i + 1) * L.n + j - L.n = i * L.n + j by rw [Nat.succ_mul]; omega]
    simpa using h.at t i (by simpa using hi) j (by simpa using hj)
theorem Flat.take (h : Flat L enc) : ∀ (l : List α) (i : Nat), (l.flatMap enc).take (i * L.n) = (l.take i).flatMap enc
  | [], i => by simp
  | x :: t, 0 => by simp
  | x :: t, i + 1 => by
    rw [List.flatMap_cons, List.take_succ_cons, List.flatMap_cons, ← h.take t i, List.take_append, h.len, show (i + 1) * L.n - L.n = i * L.n by rw [Nat.succ_mul]; omega, List.take_of_length_le (by rw [h.len, Nat.succ_mul]; omega)]
theorem Flat.drop (h : Flat L enc) : ∀ (l : List α) (i : Nat), (l.flatMap enc).drop (i * L.n) = (l.drop i).flatMap enc
  | [], i => by simp
  | x :: t, 0 => by simp
  | x :: t, i + 1 => by
    rw [List.flatMap_cons, List.drop_succ_cons, ← h.drop t i, List.drop_append, h.len, show (i + 1) * L.n - L.n = i * L.n by rw [Nat.succ_mul]; omega, List.drop_of_length_le (by rw [h.len, Nat.succ_mul]; omega), List.nil_append]
/-- A list reads as its cells. -/
theorem reads_of_sl {w : World} {F : Cell → Prop} {v : Value} {l : List α} (hf : Flat L enc) (h : (Sym.one (Lay.sl L) l).on w F v) : ∃ A c, v = .slice A l.length c ∧ Reads w w.heap.size L.n A l.length (l.flatMap enc) ∧ l.length ≤ c := by
  obtain ⟨A, c, e, h1, h2⟩ := h
  simp only [List.cons.injEq, and_true] at e
  refine ⟨A, c, e, ⟨hf.length l, fun hn => ?_⟩, h2⟩
  obtain ⟨b, off, rfl, hb, hc⟩ := h1 hn
  refine ⟨_, rfl, hb, fun j u hu => ?_⟩
  obtain ⟨hj, rfl⟩ := List.getElem?_eq_some_iff.1 hu
  rw [hf.length] at hj
  have hp : 0 < L.n := by
    rcases Nat.eq_zero_or_pos L.n with h0 | h0
    · rw [h0] at hj; omega
    · exact h0
  have hi : j / L.n < l.length := Nat.div_lt_of_lt_mul (by rw [Nat.mul_comm]; exact hj)
  obtain ⟨cs, h3, h4⟩ := hc (j / L.n) hi
  have h5 := (hf _ _ _ _).1 h3
  subst h5
  have hm : j % L.n < (enc l[j / L.n]).length := by rw [hf.len]; exact Nat.mod_lt _ hp
  have h6 := hf.at l (j / L.n) hi (j % L.n) hm
  have hdm : j / L.n * L.n + j % L.n = j := by rw [Nat.mul_comm]; exact Nat.div_add_mod j L.n
  rw [hdm] at h6
  rw [hu] at h6
  rw [add_none]
  have h7 := (h4 (j % L.n) hm).2
  rw [Nat.add_assoc, hdm] at h7
  rw [h7]
  exact h6.symm
/-- A row of the call's own reads as a list. -/
theorem sl_of_own {w : World} {F : Cell → Prop} {B : Nat} {E : TypeId} {v : Value} {l : List α} (hf : Flat L enc) (h : w.ownsRow B E L.n v l.length (l.flatMap enc)) (hF : ∀ g o, v.ownBlock = some g → o < l.length * L.n → ¬ F (g, o)) : (Sym.one (Lay.sl L) l).on w F v := by
  rcases h.2 with ⟨rfl, h0⟩ | ⟨g, c, cur, rfl, _, hg, hnc, _, hs, ht⟩
  · obtain rfl := List.eq_nil_of_length_eq_zero h0
    exact ⟨none, 0, rfl, fun h => absurd h (by simp), Nat.le_refl _⟩
  · refine ⟨some ⟨g, 0, none⟩, c, rfl, fun hl => ⟨g, 0, rfl, Blk.lt (g := g) (cs := cur) (t := E) hg, fun i hi => ⟨enc l[i], (hf _ _ _ _).2 rfl, fun j hj => ?_⟩⟩, hnc⟩
    have hlt : i * L.n + j < l.length * L.n := by
      have h1 := hf.len l[i]
      have h2 : (i + 1) * L.n ≤ l.length * L.n := Nat.mul_le_mul_right _ hi
      rw [Nat.succ_mul] at h2
      omega
    rw [Nat.zero_add]
    refine ⟨hF g _ rfl hlt, ?_⟩
    have h6 := hf.at l i hi j hj
    rw [← ht, List.getElem?_take, if_pos hlt] at h6
    rw [Blk.cell (t := E) (cs := cur) hg, ← h6]; simp
end

/-- Two things that are known of one value. -/
def Sym.both (y1 y2 : Sym) : Sym := ⟨fun w F v => y1.on w F v ∧ y2.on w F v, fun h hk hF => ⟨y1.mono h.1 hk hF, y2.mono h.2 hk hF⟩⟩
theorem od2 {e : Env} {s : Nat} {cs c : Bool} {y1 y2 : Sym} (h : e.lookup s = some (cs, .both y1 y2)) (hc : c = true → cs = true) : OpdE e c (.tmp s) y2 := fun _ _ _ hk hcc => ((hk s (by simp [slotsOf]) _ h).1 (hc hcc)).2
/-- Memory is as large as this. -/
def Sym.past (B : Nat) : Sym := ⟨fun w _ _ => B ≤ w.heap.size, fun h hk _ => Nat.le_trans h hk.size⟩
/-- A row in a block of the call's own, which nobody else writes. -/
def Sym.own (B : Nat) (E : TypeId) (k n : Nat) (xs : List Value) : Sym := ⟨fun w F v => w.ownsRow B E k v n xs ∧ ∀ g o, v.ownBlock = some g → ¬ F (g, o), by
  rintro w w' F F' v ⟨h1, h2⟩ hk hF
  refine ⟨⟨h1.1, ?_⟩, fun g o hg hf => ?_⟩
  · rcases h1.2 with h | ⟨g, c, cur, rfl, hb, hg, r⟩
    · exact .inl h
    · exact .inr ⟨g, c, cur, rfl, hb, (hk.whole g (Blk.lt (g := g) (t := E) (cs := cur) hg) fun o => h2 g o rfl).trans hg, r⟩
  · obtain ⟨_, hlt⟩ := h1.lt g hg
    exact h2 g o hg (hF (g, o) hlt hf)⟩
/-- One element in a block of its own. -/
def Sym.lit (E : TypeId) (cs : List Value) : Sym := ⟨fun w F v => ∃ g, v = .slice (some ⟨g, 0, none⟩) 1 1 ∧ Blk w g E cs.toArray ∧ ∀ o, ¬ F (g, o), by
  rintro w w' F F' v ⟨g, e, h1, h2⟩ hk hF
  exact ⟨g, e, (hk.whole g h1.lt h2).trans h1, fun o hf => h2 o (hF (g, o) h1.lt hf)⟩⟩
theorem lit_sl {α : Type} {L : Lay α} {x : α} {E : TypeId} {cs : List Value} {w : World} {F : Cell → Prop} {v : Value} (h : (Sym.lit E cs).on w F v) (hL : L.on w F cs x) : (Sym.one (Lay.sl L) [x]).on w F v := by
  obtain ⟨g, rfl, h1, h2⟩ := h
  refine ⟨some ⟨g, 0, none⟩, 1, rfl, fun _ => ⟨g, 0, rfl, h1.lt, fun i hi => ?_⟩, by simp⟩
  obtain rfl : i = 0 := by simp at hi; exact hi
  refine ⟨cs, hL, fun j hj => ⟨h2 _, ?_⟩⟩
  rw [h1.cell]; simp
section
variable {U : Prop} {P : Program} {ops : Array Oper} {Q : Exit → Act → World → Prop} {N : Nat} {e : Env} {d : Nat} {t : TypeId} {p : String} {af : Array Edge} {g : Option (Nat × Bool)} {c : Bool} {x : Operand}
def BsRun (P : Program) (o : Oper) (x : Operand) (k : Nat) (E : TypeId) : Prop := ∀ (ev : Operand → Value) (w : World) (cs : Array Value), ev x = .agg cs → cs.size = k → (execOp ev o).run P w = .ok (.value (.slice (some ⟨w.heap.size, 0, none⟩) 1 1)) (w.alloc (.cells cs E))
/-- One struct in a slice of its own. -/
theorem p_lit {α : Type} {L : Lay α} {enc : α → List Value} {z : α} {T E : TypeId} (hf : Flat L enc) (hr : BsRun P ⟨some d, .buildSlice T 1 #[(0, x)], t, p, af, g⟩ x L.n E) (hg : GdE ops e g c) (hx : OpdE e c x (.st L z)) : Pays U P ops Q N e ⟨some d, .buildSlice T 1 #[(0, x)], t, p, af, g⟩ (c, .both (.lit E (enc z)) (.one (Lay.sl L) [z])) :=
  pOf hg fun e a w F hF hk R hR => by
    obtain ⟨cs, h1, h2⟩ := hx a w F (fun s hs => hk s (by simp [Op.operands, hs])) e
    have h3 := (hf _ _ _ _).1 h2
    have hb : Below w.heap.size w (w.alloc (.cells cs.toArray E)) := (Below.refl _ _).alloc (Nat.le_refl _) _
    have hB := Blk.new w E cs.toArray
    have hl : (Sym.lit E (enc z)).on (w.alloc (.cells cs.toArray E)) F (.slice (some ⟨w.heap.size, 0, none⟩) 1 1) := ⟨w.heap.size, rfl, by rw [← h3]; exact hB, fun o h => Nat.lt_irrefl _ (hF.lt _ h)⟩
    unfold Oper.wp
    rw [hr _ w cs.toArray h1 (by simp [L.len h2])]
    exact hR _ _ hb ⟨hl, lit_sl hl ((hf _ _ _ _).2 rfl)⟩
end

/-- The cells behind a list that may be filled. -/
def Sl (v : Value) (n : Nat) : Cell → Prop := fun c => v.ownBlock = some c.1 ∧ n ≤ c.2
def And2 (F0 G : Cell → Prop) : Cell → Prop := fun c => F0 c ∨ G c
/-- A list that grows, off the cells of F0. -/
structure Grows {α : Type} (L : Lay α) (enc : α → List Value) (B : Nat) (E : TypeId) (F0 : Cell → Prop) (w : World) (v : Value) (l : List α) : Prop where
  own : w.ownsRow B E L.n v l.length (l.flatMap enc)
  dis : ∀ g o, v.ownBlock = some g → ¬ F0 (g, o)
section
variable {α : Type} {L : Lay α} {enc : α → List Value} {B : Nat} {E : TypeId} {F0 : Cell → Prop} {w w' : World} {v : Value} {l : List α}
theorem Grows.below (h : Grows L enc B E F0 w v l) (hb : Below w.heap.size w w') : Grows L enc B E F0 w' v l := ⟨own_below h.own hb, h.dis⟩
theorem Grows.nil : Grows L enc B E F0 w (.slice none 0 0) ([] : List α) := ⟨World.ownsRow_nil _ _ _ _, fun g o h => by cases h⟩
theorem Grows.sl (h : Grows L enc B E F0 w v l) (hf : Flat L enc) : (Sym.one (Lay.sl L) l).on w (And2 F0 (Sl v (l.length * L.n))) v := sl_of_own hf h.own fun g o hg ho hF => by
  rcases hF with h1 | ⟨_, h1⟩
  · exact h.dis g o hg h1
  · exact absurd h1 (by simp only; omega)
theorem Grows.fok (h : Grows L enc B E F0 w v l) {U : Prop} (hu : ¬ U) (hF : FOK U F0 w) : FOK U (And2 F0 (Sl v (l.length * L.n))) w := ⟨fun k hk => by
  rcases hk with h1 | ⟨h1, _⟩
  · exact hF.lt k h1
  · exact (h.own.lt k.1 h1).2, fun u => absurd u hu⟩
end

/-- What is ahead of an append's end stays where it was. -/
theorem append_keeps {P : Program} {w w' : World} {base : Nat} {t ty E : TypeId} {i : TypeInfo} {z : Value} {size bytes : Nat} (ht : P.underlying t = some (.slice E)) (hi : P.info? E = some i) (hz : i.zero = some z) (hsize : i.size = size) (hby : i.bytes = bytes)
    {v v' : Value} {n : Nat} {xs : List Value} (hown : w.ownsRow base E size v n xs) {A : Addr} {m c : Nat} {news : List Value} (hl : news.length = m * size) (hnews : ∀ j u, news[j]? = some u → w.cell? (A.add j) = some u) (h1 : ∀ u ∈ news, u.oneCell' = true)
    (h63 : n + m ≤ maxLen) (hbytes : (n + m) * bytes ≤ 140737488355328) (hr : (Builtin.append_ #[t, t] ty #[v, .slice (some A) m c]).run P w = .ok v' w') (h2 : w'.ownsRow base E size v' (n + m) (xs ++ news)) :
    ∀ g j, v.ownBlock = some g → j < n * size → w'.cell? ⟨g, j, none⟩ = w.cell? ⟨g, j, none⟩ := fun g j hg hj => by
  subst hsize hby
  rcases hown.2 with ⟨rfl, rfl⟩ | ⟨g', cap, cur, rfl, hbg, hgc, hnc, hcm, hcs, htake⟩
  · cases hg
  · obtain rfl : g' = g := by cases hg; rfl
    have hx : ∃ u, xs[j]? = some u := ⟨_, List.getElem?_eq_getElem (by rw [hown.1]; exact hj)⟩
    obtain ⟨u, hu⟩ := hx
    have e1 : w.cell? ⟨g', j, none⟩ = some u := by
      have := hown.cells (g := g') rfl j u hu
      rwa [add_none, Nat.zero_add] at this
    by_cases hroom : n + m ≤ cap
    · have hfit : n * i.size + news.length ≤ cur.size := by rw [hl, hcs, ← Nat.add_mul]; exact Nat.mul_le_mul_right _ hroom
      have hr2 := run_append_room (P := P) w t ty E i ht hi g' n cap cur hgc A m c news hl hnews h1 hroom hfit
      rw [hr] at hr2
      injection hr2 with e2 e3
      subst e2
      have := h2.cells (g := g') rfl j u (by rw [List.getElem?_append_left (by rw [hown.1]; exact hj)]; exact hu)
      rw [add_none, Nat.zero_add] at this
      rw [this, e1]
    · have holds : ∀ j u, xs[j]? = some u → w.cell? ((⟨g', 0, none⟩ : Addr).add j) = some u := hown.cells (g := g') rfl
      have hr2 := run_append_grow (P := P) w t ty E i z ht hi hz ⟨g', 0, none⟩ n cap xs hown.1 holds A m c news hl hnews (by omega) (by simp only [maxLen] at h63; omega) (growslice_fits (by omega) hbytes)
      rw [hr] at hr2
      injection hr2 with e2 e3
      rw [e3]
      exact World.cell?_of_block (Below.heap_alloc w.drew _ g' (Blk.lt (g := g') (t := E) (cs := cur) hgc))

section
variable {U : Prop} {P : Program} {Q : Exit → Act → World → Prop} {N : Nat} {e : Env} {F0 : Cell → Prop} {a : Act} {w : World}
/-- A region in the text's order, up to some operation. -/
theorem chainK {l l0 : List Oper} {e' : Env} {F : Cell → Prop} (k : Nat) (hC : Chain U P l0.toArray Q N e [] (l.take k) e' []) (hN : (l.take k).all (fun o => o.dst.any fun d => decide (d < N)) = true) (hs : StE U N e F a w Df)
    (hQ : ∀ a' w', Below w.heap.size w w' → StE U N e' F a' w' Df → wpList P l0.toArray Q (l.drop k) a' w') : wpList P l0.toArray Q l a w := by
  have := chainT hC hN hs (t := l.drop k) hQ
  rwa [List.take_append_drop] at this
/-- A list grows. -/
theorem grow_step {ops : Array Oper} {rest : List Oper} {o : Oper} {α : Type} {L : Lay α} {enc : α → List Value} {B : Nat} {T E : TypeId} {v : Value} {l l2 : List α} {y1 : Sym} {i : TypeInfo} {z : Value} {bytes d : Nat} (hf : Flat L enc) (sa sb : Nat) (hu : ¬ U) (h : StE U N e (And2 F0 (Sl v (l.length * L.n))) a w Df) (hG : Grows L enc B E F0 w v l)
    (ho : o.op = .call { callee := .builtin .append, args := #[.tmp sa, .tmp sb], argTypes := #[T, T] }) (hd : o.dst = some d) (hdN : decide (d < N) = true) (hgd : o.guard = none)
    (ht : P.underlying T = some (.slice E)) (hi : P.info? E = some i) (hz : i.zero = some z) (hsize : i.size = L.n) (hby : i.bytes = bytes) (hzs : z.cells.size = L.n) (hsz : 0 < L.n)
    (hsa : e.lookup sa = some (true, .both (.val v) y1)) (hsb : e.lookup sb = some (true, .both (.lit E (l2.flatMap enc)) (.one (Lay.sl L) l2))) (hl2 : l2.length = 1) (hB : B ≤ w.heap.size) (h63 : l.length + 1 ≤ maxLen) (hbytes : (l.length + 1) * bytes ≤ 140737488355328)
    (hQ : ∀ v' w', Grows L enc B E F0 w' v' (l ++ l2) → w.grownBy w' v.ownBlock → w.heap.size ≤ w'.heap.size → StE U N ((d, true, .both (.val v') (.one (Lay.sl L) (l ++ l2))) :: e) (And2 F0 (Sl v' ((l ++ l2).length * L.n))) (a.put (some d) v') w' Df → wpList P ops Q rest (a.put (some d) v') w') : wpList P ops Q (o :: rest) a w := by
  have ea : a.eval (.tmp sa) = v := (h.get sa hsa).1
  obtain ⟨gl, el, hBl, hnl⟩ := (h.get sb hsb).1
  have hx : a.eval (.tmp sb) = .slice (some ⟨gl, 0, none⟩) 1 1 := el
  have hnews : ∀ j u, (l2.flatMap enc)[j]? = some u → w.cell? ((⟨gl, 0, none⟩ : Addr).add j) = some u := fun j u hj => by
    rw [add_none, hBl.cell, ← hj]; simp
  have hll : (l2.flatMap enc).length = 1 * L.n := by rw [hf.length, hl2]
  refine wpList_plain hgd fun K hK => ?_
  obtain ⟨v', w', hr, h2, h3, _, h5⟩ := run_append_own_at (P := P) w B T o.type E i z L.n bytes ht hi hz hsize hby hzs hsz v l.length _ hG.own ⟨gl, 0, none⟩ 1 1 _ hll hnews (hf.ones l2) h63 hbytes hB
  have hkp := append_keeps ht hi hz hsize hby hG.own hll hnews (hf.ones l2) h63 hbytes hr h2
  have hap : (l ++ l2).length = l.length + 1 := by rw [List.length_append, hl2]
  have hG' : Grows L enc B E F0 w' v' (l ++ l2) := ⟨by rw [hap, List.flatMap_append]; exact h2, fun g o hg hF => by
    rcases h5 with h5 | h5
    · exact hG.dis g o (h5 ▸ hg) hF
    · rw [h5] at hg; cases hg
      exact Nat.lt_irrefl _ (h.fok.lt (w.heap.size, o) (.inl hF))⟩
  have hF0' : FOK U F0 w' := ⟨fun k hk => Nat.lt_of_lt_of_le (h.fok.lt k (.inl hk)) h3.size, fun u => absurd u hu⟩
  have hkeep : Keeps (And2 F0 (Sl v (l.length * L.n))) w w' := ⟨h3.size, fun k hk hn => by
    by_cases hb : v.ownBlock = some k.1
    · refine hkp k.1 k.2 hb ?_
      rcases Nat.lt_or_ge k.2 (l.length * L.n) with h | h
      · exact h
      · exact absurd (.inr ⟨hb, h⟩) hn
    · exact World.cell?_of_block (h3.block k.1 hk fun e => hb e.symm), fun b hb hn => h3.block b hb fun e => hn (l.length * L.n) (.inr ⟨e.symm, Nat.le_refl _⟩)⟩
  have hsub : ∀ k : Cell, k.1 < w.heap.size → And2 F0 (Sl v' ((l ++ l2).length * L.n)) k → And2 F0 (Sl v (l.length * L.n)) k := fun k hk h' => by
    rcases h' with h' | ⟨h1, h4⟩
    · exact .inl h'
    · rcases h5 with h5 | h5
      · exact .inr ⟨h5 ▸ h1, Nat.le_trans (Nat.mul_le_mul_right _ (by omega)) h4⟩
      · rw [h5] at h1; injection h1 with h1; omega
  have hst : StE U N e (And2 F0 (Sl v' ((l ++ l2).length * L.n))) a w' Df := ⟨h.size, h.defers, hG'.fok hu hF0', fun s k hs => (h.known s k hs).mono hkeep hsub⟩
  have hdN' : d < N := by simpa using hdN
  unfold Oper.wp execOp
  simp only [ho, resolve, invoke, builtin, Sem.run_bind, Sem.run_pure, Result.andThen_ok, List.map_toArray, List.map_cons, List.map_nil, ea, hx, hr]
  have hfin := hQ v' w' hG' h3 h3.size (hst.put (Below.refl _ _) hdN' ⟨fun _ => ⟨rfl, hG'.sl hf⟩, fun e => by cases e⟩)
  refine hK _ _ ?_
  rw [hd]
  exact hfin
end
section
variable {U : Prop} {P : Program} {f : FuncId} {y y1 y2 y3 y4 : Sym}
theorem fn0 (h : ∀ (w : World) (F : Cell → Prop), FOK U F w → Calls P f #[] w fun e w' => ∃ v, e = .returned v ∧ y.on w' F v ∧ Below w.heap.size w w') : Fn U P f [] y := fun w F vs hl _ hF => by
  match vs, hl with
  | [], _ => exact h w F hF
theorem fn1 (h : ∀ (w : World) (F : Cell → Prop) v1, y1.on w F v1 → FOK U F w → Calls P f #[v1] w fun e w' => ∃ v, e = .returned v ∧ y.on w' F v ∧ Below w.heap.size w w') : Fn U P f [y1] y := fun w F vs hl ho hF => by
  match vs, hl with
  | [v1], _ => exact h w F v1 (ho 0 v1 y1 rfl rfl) hF
theorem fn2 (h : ∀ (w : World) (F : Cell → Prop) v1 v2, y1.on w F v1 → y2.on w F v2 → FOK U F w → Calls P f #[v1, v2] w fun e w' => ∃ v, e = .returned v ∧ y.on w' F v ∧ Below w.heap.size w w') : Fn U P f [y1, y2] y := fun w F vs hl ho hF => by
  match vs, hl with
  | [v1, v2], _ => exact h w F v1 v2 (ho 0 v1 y1 rfl rfl) (ho 1 v2 y2 rfl rfl) hF
theorem fn3 (h : ∀ (w : World) (F : Cell → Prop) v1 v2 v3, y1.on w F v1 → y2.on w F v2 → y3.on w F v3 → FOK U F w → Calls P f #[v1, v2, v3] w fun e w' => ∃ v, e = .returned v ∧ y.on w' F v ∧ Below w.heap.size w w') : Fn U P f [y1, y2, y3] y := fun w F vs hl ho hF => by
  match vs, hl with
  | [v1, v2, v3], _ => exact h w F v1 v2 v3 (ho 0 v1 y1 rfl rfl) (ho 1 v2 y2 rfl rfl) (ho 2 v3 y3 rfl rfl) hF
theorem fn4 (h : ∀ (w : World) (F : Cell → Prop) v1 v2 v3 v4, y1.on w F v1 → y2.on w F v2 → y3.on w F v3 → y4.on w F v4 → FOK U F w → Calls P f #[v1, v2, v3, v4] w fun e w' => ∃ v, e = .returned v ∧ y.on w' F v ∧ Below w.heap.size w w') : Fn U P f [y1, y2, y3, y4] y := fun w F vs hl ho hF => by
  match vs, hl with
  | [v1, v2, v3, v4], _ => exact h w F v1 v2 v3 v4 (ho 0 v1 y1 rfl rfl) (ho 1 v2 y2 rfl rfl) (ho 2 v3 y3 rfl rfl) (ho 3 v4 y4 rfl rfl) hF
/-- An operation on what is written out. -/
def DoneRun (P : Program) (o : Oper) (v : Value) : Prop := ∀ (ev : Operand → Value) (w : World), (∀ v, ev (.const v) = v) → (execOp ev o).run P w = .ok (.value v) w
theorem p_done {ops : Array Oper} {Q : Exit → Act → World → Prop} {N d : Nat} {e : Env} {t : TypeId} {p : String} {af : Array Edge} {g : Option (Nat × Bool)} {c : Bool} {op : Op} {v : Value} (hr : DoneRun P ⟨some d, op, t, p, af, g⟩ v) (hy : ∀ w F, y.on w F v) (hg : GdE ops e g c) : Pays U P ops Q N e ⟨some d, op, t, p, af, g⟩ (c, y) :=
  pVal hg fun _ _ w F _ => ⟨v, hr _ w (fun _ => rfl), hy w F⟩
end
end Go.Proofs.Ytbeeiecbbmiojaa.Y
