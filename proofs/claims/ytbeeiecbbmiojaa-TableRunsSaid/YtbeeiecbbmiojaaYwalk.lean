/- The steps of a walk: a function's beginning, its branches, its stores, its loops, its end. No program in sight. -/
import Derived.Test.YtbeeiecbbmiojaaYopen
import Derived.Laws.CopyOwn
import Derived.Laws.ResultCell
namespace Go.Proofs.Ytbeeiecbbmiojaa.Y
open Go.RowKit
variable {Df : List Deferred}

section
variable {U : Prop} {P : Program} {Q : Exit → Act → World → Prop} {N : Nat} {e : Env} {F : Cell → Prop} {a : Act} {w : World}
theorem sn : SubE e [] := True.intro
theorem sc (s : Nat) {k : Bool × Sym} {t : Env} (h : e.lookup s = some k) (r : SubE e t) : SubE e ((s, k) :: t) := ⟨h, r⟩
theorem StE.keep {e' : Env} (h : StE U N e F a w Df) (hs : SubE e e') : StE U N e' F a w Df := h.to e' hs
def KnowsAll (F : Cell → Prop) (a : Act) (w : World) : Env → Prop
  | [] => True
  | (s, b, y) :: t => (b = true ∧ y.on w F (a.tmps.getD s undef)) ∧ KnowsAll F a w t
theorem st0 (h1 : a.tmps.size = N) (h2 : a.defers = Df) (h3 : FOK U F w) (h4 : KnowsAll F a w e) : StE U N e F a w Df := ⟨h1, h2, h3, fun s k hk => by
  clear h1
  induction e with
  | nil => cases hk
  | cons p t ih =>
    obtain ⟨s', b, y⟩ := p
    rw [List.lookup_cons] at hk
    cases hs : s == s' with
    | true =>
      rw [hs] at hk; simp at hk hs; subst hs hk
      exact ⟨fun _ => h4.1.2, fun e => absurd (e.symm.trans h4.1.1) (by simp)⟩
    | false => rw [hs] at hk; exact ih h4.2 hk⟩
/-- The condition of a branch. -/
theorem StE.cond {b : Bool} {x y : Code} (h : StE U N e F a w Df) (s : Nat) (hK : e.lookup s = some (true, .bool b))
    (ht : b = true → x.wp P Q a w) (hf : b = false → y.wp P Q a w) : (Code.cond (.tmp s) x y).wp P Q a w := by
  refine wp_cond (t := b) (h.get s hK) ?_
  cases b with
  | true => exact ht rfl
  | false => exact hf rfl

theorem StE.weak (h : StE U N e F a w Df) : StE False N e F a w Df := ⟨h.size, h.defers, ⟨h.fok.lt, fun h => h.elim⟩, h.known⟩
theorem made1 {d : Nat} {T : TypeId} {z : Array Value} {gs : List Nat} (h : MadeAt [(d, T, z)] gs a w) : ∃ g, gs = [g] ∧ a.tmps.getD d undef = .pointer (some ⟨g, 0, none⟩) ∧ Blk w g T z := by
  match gs, h with
  | [g], ⟨h1, _⟩ => exact ⟨g, rfl, h1⟩
theorem made2 {d d2 : Nat} {T T2 : TypeId} {z z2 : Array Value} {gs : List Nat} (h : MadeAt [(d, T, z), (d2, T2, z2)] gs a w) : ∃ g g2, gs = [g, g2] ∧ (a.tmps.getD d undef = .pointer (some ⟨g, 0, none⟩) ∧ Blk w g T z) ∧ (a.tmps.getD d2 undef = .pointer (some ⟨g2, 0, none⟩) ∧ Blk w g2 T2 z2) := by
  match gs, h with
  | [g, g2], ⟨h1, h2, _⟩ => exact ⟨g, g2, rfl, h1, h2⟩

/-- What a store of a value into a variable of its own lays there. -/
def Puts (yv ya : Sym) (m : Nat) : Prop := ∀ {w : World} {F : Cell → Prop} {v : Value}, yv.on w F v → ∃ cs : Array Value, v = .agg cs ∧ cs.size = m ∧ (∀ u ∈ cs.toList, u.oneCell' = true) ∧
  ∀ (w' : World) (F' : Cell → Prop) (b : Nat) (T : TypeId), Keeps F w w' → (∀ k : Cell, k.1 < w.heap.size → F' k → F k) → Blk w' b T cs → (∀ o, ¬ F' (b, o)) → ya.on w' F' (.pointer (some ⟨b, 0, none⟩))
theorem puts_st {α : Type} {L : Lay α} {x : α} : Puts (.st L x) (.at L x) L.n := by
  rintro w F v ⟨cs, rfl, h⟩
  refine ⟨cs.toArray, rfl, by simpa using L.len h, by simpa using L.one h, fun w' F' b T hk hF hB hf => ⟨b, 0, cs, rfl, hB.lt, L.mono h hk hF, fun j hj => ⟨hf _, ?_⟩⟩⟩
  rw [hB.cell]; simp
/-- Stores into variables that were just made: what they hold then is known. -/
def StoresE (P : Program) : Env → Made → List Oper → Env → Made → Prop
  | e, al, [], e', al' => e' = e ∧ al' = al
  | e, al, o :: os, e', al' => ∃ (t x : Nat) (T T' : TypeId) (yv ya : Sym) (m : Nat) (z : Array Value), (o.op = .store T (.tmp t) (.tmp x) ∧ o.dst = none ∧ o.guard = none ∧ (P.info? T).map (·.size) = some m) ∧ (e.lookup x = some (true, yv) ∧ Puts yv ya m ∧ al.lookup t = some (T', z) ∧ z.size = m) ∧
    StoresE P ((t, true, ya) :: e) (al.filter fun p => p.1 != t) os e' al'
theorem ss0 {al : Made} : StoresE P e al [] e al := ⟨rfl, rfl⟩
theorem ss {al al' : Made} {e' : Env} {o : Oper} {os : List Oper} {t x : Nat} {T T' : TypeId} {yv ya : Sym} {m : Nat} {z : Array Value} (h1 : o.op = .store T (.tmp t) (.tmp x)) (h2 : o.dst = none) (h3 : o.guard = none) (h5 : e.lookup x = some (true, yv)) (h6 : Puts yv ya m) (h4 : (P.info? T).map (·.size) = some m) (h7 : al.lookup t = some (T', z)) (h8 : z.size = m) (h9 : StoresE P ((t, true, ya) :: e) (al.filter fun p => p.1 != t) os e' al') : StoresE P e al (o :: os) e' al' :=
  ⟨t, x, T, T', yv, ya, m, z, ⟨h1, h2, h3, h4⟩, ⟨h5, h6, h7, h8⟩, h9⟩

theorem madeAt_pick {t : Nat} {T : TypeId} {z : Array Value} : ∀ {al : Made} {gs : List Nat}, MadeAt al gs a w → gs.Nodup → al.lookup t = some (T, z) → ∃ g gs', (a.tmps.getD t undef = .pointer (some ⟨g, 0, none⟩) ∧ Blk w g T z) ∧ MadeAt (al.filter fun p => p.1 != t) gs' a w ∧ gs'.Nodup ∧ (∀ k ∈ gs', k ∈ gs ∧ k ≠ g) ∧ g ∈ gs
  | (d, T', z') :: al, g :: gs, ⟨h1, h2⟩, hn, hl => by
    rw [List.nodup_cons] at hn
    rw [List.lookup_cons] at hl
    have keep : ∀ {al : Made} {gs : List Nat}, MadeAt al gs a w → gs.Nodup → ∃ gs', MadeAt (al.filter fun p => p.1 != t) gs' a w ∧ gs'.Nodup ∧ ∀ k ∈ gs', k ∈ gs := by
      intro al
      induction al with
      | nil => intro gs h hn; exact ⟨gs, h, hn, fun k hk => hk⟩
      | cons p al ih =>
        intro gs h hn
        match gs, h with
        | g :: gs, ⟨h1, h2⟩ =>
          rw [List.nodup_cons] at hn
          obtain ⟨gs', i1, i2, i3⟩ := ih h2 hn.2
          rw [List.filter_cons]
          split
          · exact ⟨g :: gs', ⟨h1, i1⟩, List.nodup_cons.2 ⟨fun h => hn.1 (i3 g h), i2⟩, fun k hk => by
              rcases List.mem_cons.1 hk with rfl | hk
              · exact List.mem_cons_self
              · exact List.mem_cons_of_mem _ (i3 k hk)⟩
          · exact ⟨gs', i1, i2, fun k hk => List.mem_cons_of_mem _ (i3 k hk)⟩
    cases hs : t == d with
    | true =>
      rw [hs] at hl; simp at hl hs; subst hs; obtain ⟨rfl, rfl⟩ := hl
      obtain ⟨gs', i1, i2, i3⟩ := keep h2 hn.2
      exact ⟨g, gs', h1, by simpa [List.filter_cons] using i1, i2, fun k hk => ⟨List.mem_cons_of_mem _ (i3 k hk), fun e => hn.1 (e ▸ i3 k hk)⟩, List.mem_cons_self⟩
    | false =>
      rw [hs] at hl
      obtain ⟨g', gs', e1, e2, e3, e4, e5⟩ := madeAt_pick h2 hn.2 hl
      have hne : (d != t) = true := by
        simp at hs ⊢; exact fun h => hs h.symm
      refine ⟨g', g :: gs', e1, ?_, List.nodup_cons.2 ⟨fun h => hn.1 (e4 g h).1, e3⟩, fun k hk => ?_, List.mem_cons_of_mem _ e5⟩
      · rw [List.filter_cons, if_pos hne]; exact ⟨h1, e2⟩
      · rcases List.mem_cons.1 hk with rfl | hk
        · exact ⟨List.mem_cons_self, fun e => hn.1 (e ▸ e5)⟩
        · exact ⟨List.mem_cons_of_mem _ (e4 k hk).1, (e4 k hk).2⟩
theorem madeAt_keep {w' : World} : ∀ {al : Made} {gs : List Nat}, MadeAt al gs a w → (∀ g ∈ gs, w'.heap[g]? = w.heap[g]?) → MadeAt al gs a w'
  | [], [], _, _ => True.intro
  | (_, _, _) :: _, g :: _, ⟨⟨h1, h2⟩, h3⟩, hk => ⟨⟨h1, (hk g List.mem_cons_self).trans h2⟩, madeAt_keep h3 fun g' hg' => hk g' (List.mem_cons_of_mem _ hg')⟩
theorem keeps_setRow {g : Nat} {cs : Array Value} (hF : ∀ o, F (g, o)) : Keeps F w (w.setRow g cs) := ⟨by rw [size_setRow]; exact Nat.le_refl _, fun k _ hk => World.cell?_of_block (setRow_other w g k.1 cs (fun e => hk (by rw [show k = (g, k.2) from by rw [← e]]; exact hF _))), fun b _ hb => setRow_other w g b cs (fun e => hb 0 (by rw [e]; exact hF 0))⟩
/-- The stores run. -/
theorem stores_run {ops : Array Oper} {rest : List Oper} {w0 : World} : ∀ (os : List Oper) {e e' : Env} {al al' : Made} {gs : List Nat} {w : World}, StoresE P e al os e' al' → StE U N e (Also F gs) a w Df → MadeAt al gs a w → gs.Nodup → (∀ g ∈ gs, w0.heap.size ≤ g) → (∀ k : Cell, F k → k.1 < w0.heap.size) → Below w0.heap.size w0 w →
    (∀ w' gs', Below w0.heap.size w0 w' → StE U N e' (Also F gs') a w' Df → MadeAt al' gs' a w' → gs'.Nodup → (∀ g ∈ gs', w0.heap.size ≤ g) → wpList P ops Q rest a w') → wpList P ops Q (os ++ rest) a w
  | [], e, e', al, al', gs, w, h, hs, hm, hn, hg, _, hb, hQ => by
    obtain ⟨rfl, rfl⟩ := h
    exact hQ w gs hb hs hm hn hg
  | o :: os, e, e', al, al', gs, w, ⟨t, x, T, T', yv, ya, m, z, ⟨h1, h2, h3, h4⟩, ⟨h5, h6, h7, h8⟩, h9⟩, hs, hm, hn, hg, hF, hb, hQ => by
    obtain ⟨g, gs', ⟨e1, e2⟩, e3, e4, e5, e6⟩ := madeAt_pick hm hn h7
    obtain ⟨cs, c1, c2, c3, c4⟩ := h6 (hs.get x h5)
    refine wpList_store_rowTo h3 T (.tmp t) (.tmp x) h1 h2 g cs e1 c1 T' z e2 (by rw [h4, c2]) (by rw [h8, c2]) (by rw [Array.all_eq_true']; intro u hu; exact c3 u (by simpa using hu)) ?_
    have hfg : ∀ o, Also F gs (g, o) := fun _ => .inr e6
    have hnF : ∀ o, ¬ F (g, o) := fun o h => by have := hF (g, o) h; have := hg g e6; simp only at *; omega
    have hkp : Keeps (Also F gs) w (w.setRow g cs) := keeps_setRow hfg
    have hB : Blk (w.setRow g cs) g T' cs := setRow_heap w g z cs T' (0, 0) e2
    have hsub : ∀ k, Also F gs' k → Also F gs k := fun k => Or.imp (fun h => h) (fun h => (e5 k.1 h).1)
    have hng : ∀ o, ¬ Also F gs' (g, o) := fun o h => h.elim (hnF o) (fun h => (e5 g h).2 rfl)
    have hfok : FOK U (Also F gs') (w.setRow g cs) := ⟨fun k hk => by rw [size_setRow]; exact hs.fok.lt k (hsub k hk), fun u k hk ko x => by
      have hne : k.1 ≠ g := fun e => hng k.2 (by rw [show (g, k.2) = k from by rw [← e]]; exact hk)
      rw [show (w.setRow g cs).cell? ⟨k.1, ko, none⟩ = w.cell? ⟨k.1, ko, none⟩ from World.cell?_of_block (setRow_other w g k.1 cs hne)]
      exact hs.fok.nou u k (hsub k hk) ko x⟩
    have hs' : StE U N e (Also F gs') a (w.setRow g cs) Df := ⟨hs.size, hs.defers, hfok, fun s k hk => (hs.known s k hk).mono hkp fun k _ hk => hsub k hk⟩
    have hs2 := hs'.more t (y := ya) (by rw [e1]; exact c4 _ _ g T' hkp (fun k _ hk => hsub k hk) hB hng)
    exact stores_run os h9 hs2 (madeAt_keep e3 fun g' hg' => setRow_other w g g' cs (e5 g' hg').2) e4 (fun g' hg' => hg g' (e5 g' hg').1) hF (below_setRow hb (hg g e6) cs) hQ
/-- A region that makes variables, stores into them, and goes on. -/
theorem flowP {id : Nat} {l : List Oper} {b : Bool} {e1 e' : Env} {al al' : Made} (n : Nat) (os rest : List Oper) (hm : P.follows .mixedOrders = true) (h : StE U N e F a w Df) (hB : flowB l.toArray (e.map (·.1)) n N [n] = true) (hF : freshB (e.map (·.1)) (dstsOf (l.take n)) = true) (hl : l.drop n = os ++ rest)
    (hC : Chain U P l.toArray Q N e [] (l.take n) e1 al) (hA : ((l.take n).all (fun o => (usesOf l.toArray o).all fun s => !(al.map (·.1)).contains s) && freshB [] (al.map (·.1))) = true)
    (hS : StoresE P e1 al os e' al')
    (hQ : ∀ a' w' gs, Below w.heap.size w w' → StE U N e' (Also F gs) a' w' Df → MadeAt al' gs a' w' → gs.Nodup → (∀ g ∈ gs, w.heap.size ≤ g) → wpList P l.toArray Q rest a' w') : (Code.region id l.toArray b).wp P Q a w :=
  flowH n hm h hB hF hC hA fun a' w' gs hb hs hn hg hM => by
    rw [hl]
    exact stores_run os hS hs hM hn hg h.fok.lt hb fun w'' gs' hb' hs' hM' hn' hg' => hQ a' w'' gs' hb' hs' hM' hn' hg'
/-- The same, where all variables that it makes are stored to, and nothing else. -/
theorem flowQ {id : Nat} {l : List Oper} {b : Bool} {e1 e' : Env} {al : Made} (n : Nat) (hm : P.follows .mixedOrders = true) (h : StE U N e F a w Df) (hB : flowB l.toArray (e.map (·.1)) n N [n] = true) (hF : freshB (e.map (·.1)) (dstsOf (l.take n)) = true)
    (hC : Chain U P l.toArray Q N e [] (l.take n) e1 al) (hA : ((l.take n).all (fun o => (usesOf l.toArray o).all fun s => !(al.map (·.1)).contains s) && freshB [] (al.map (·.1))) = true)
    (hS : StoresE P e1 al (l.drop n) e' [])
    (hQ : ∀ a' w', Below w.heap.size w w' → StE U N e' F a' w' Df → Q .normal a' w') : (Code.region id l.toArray b).wp P Q a w :=
  flowP n (l.drop n) [] hm h hB hF (by simp) hC hA hS fun a' w' gs hb hs hM _ _ => hQ a' w' hb (hs.less fun k hk => .inl hk)

/-- A region that makes variables, and does not store. -/
theorem flowN {id : Nat} {l : List Oper} {b : Bool} {e' : Env} {al : Made} (hm : P.follows .mixedOrders = true) (h : StE U N e F a w Df) (hB : flowB l.toArray (e.map (·.1)) l.length N [l.length] = true) (hF : freshB (e.map (·.1)) (dstsOf l) = true)
    (hC : Chain U P l.toArray Q N e [] l e' al) (hA : (l.all (fun o => (usesOf l.toArray o).all fun s => !(al.map (·.1)).contains s) && freshB [] (al.map (·.1))) = true)
    (hQ : ∀ a' w' gs, Below w.heap.size w w' → StE U N e' (Also F gs) a' w' Df → gs.Nodup → (∀ g ∈ gs, w.heap.size ≤ g) → MadeAt al gs a' w' → Q .normal a' w') : (Code.region id l.toArray b).wp P Q a w :=
  flowH l.length hm h hB (by rw [List.take_length]; exact hF) (by rw [List.take_length]; exact hC) (by rw [List.take_length]; exact hA) fun a' w' gs hb hs hn hg hM => by
    rw [List.drop_length]
    exact hQ a' w' gs hb hs hn hg hM
/-- The head of a region that makes no variables; the rest of it comes in its order. -/
theorem flowR {id : Nat} {l : List Oper} {b : Bool} {e' : Env} (n : Nat) (hm : P.follows .mixedOrders = true) (h : StE U N e F a w Df) (hB : flowB l.toArray (e.map (·.1)) n N [n] = true) (hF : freshB (e.map (·.1)) (dstsOf (l.take n)) = true)
    (hC : Chain U P l.toArray Q N e [] (l.take n) e' []) (hQ : ∀ a' w', Below w.heap.size w w' → StE U N e' F a' w' Df → wpList P l.toArray Q (l.drop n) a' w') : (Code.region id l.toArray b).wp P Q a w :=
  flowH n hm h hB hF hC (by simp [freshB]) fun a' w' gs hb hs hn hg hM => by
    match gs, hM with
    | [], _ => exact hQ a' w' hb (hs.less fun k hk => .inl hk)
theorem wpList_done {ops : Array Oper} (h : Q .normal a w) : wpList P ops Q [] a w := h
theorem andl {a b : Bool} (h : (a && b) = true) : a = true := by rw [Bool.and_eq_true] at h; exact h.1
/-- A store of a struct's value into a block of one's own. -/
theorem store_own {ops : Array Oper} {rest : List Oper} {o : Oper} {g : Nat} {T T' : TypeId} {z : Array Value} {α : Type} {L : Lay α} {x : α} (t s : Nat) (h : StE U N e F a w Df) (h1 : o.op = .store T (.tmp t) (.tmp s)) (h2 : o.dst = none) (h3 : o.guard = none) (h4 : (P.info? T).map (·.size) = some L.n) (hx : e.lookup s = some (true, .st L x))
    (hg : e.lookup t = some (true, .val (.pointer (some ⟨g, 0, none⟩)))) (hB : Blk w g T' z) (hz : z.size = L.n) (hFg : ∀ o, F (g, o)) (hu : U → ∀ {w : World} {F : Cell → Prop} {cs : List Value}, L.on w F cs x → ∀ x : Int, Value.int .u32 x ∉ cs)
    (hQ : ∀ w' cs, Keeps F w w' → (∀ B w0, Below B w0 w → B ≤ g → Below B w0 w') → Blk w' g T' cs → L.on w' F cs.toList x → StE U N e F a w' Df → wpList P ops Q rest a w') : wpList P ops Q (o :: rest) a w := by
  obtain ⟨cs, c1, c2⟩ := h.get s hx
  have e1 := h.get t hg
  refine wpList_store_rowTo h3 T (.tmp t) (.tmp s) h1 h2 g cs.toArray e1 c1 T' z hB (by rw [h4]; simp [L.len c2]) (by rw [hz]; simp [L.len c2]) (by simpa using L.one c2) ?_
  have hk : Keeps F w (w.setRow g cs.toArray) := keeps_setRow hFg
  have hB' : Blk (w.setRow g cs.toArray) g T' cs.toArray := setRow_heap w g z cs.toArray T' (0, 0) hB
  refine hQ _ cs.toArray hk (fun B w0 hb hg => below_setRow hb hg _) hB' (by simpa using L.mono c2 hk fun _ _ h => h) (h.wrote hk ⟨fun k hf => by rw [size_setRow]; exact h.fok.lt k hf, fun u k hf ko x => ?_⟩)
  by_cases e : k.1 = g
  · rw [e, hB'.cell]
    intro hh
    exact hu u c2 x (List.mem_of_getElem? (by simpa using hh))
  · rw [show (w.setRow g cs.toArray).cell? ⟨k.1, ko, none⟩ = w.cell? ⟨k.1, ko, none⟩ from World.cell?_of_block (setRow_other w g k.1 _ e)]
    exact h.fok.nou u k hf ko x

/-- A region with one store of a struct's value into a block of one's own among its operations, wherever it comes. -/
theorem flowW {id : Nat} {l : List Oper} {b : Bool} {e' : Env} {o : Oper} {g : Nat} {T T' : TypeId} {z : Array Value} {α : Type} {L : Lay α} {x : α} (n m t s : Nat) (hm : P.follows .mixedOrders = true) (h : StE U N e F a w Df) (hB : flowB l.toArray (e.map (·.1)) n N [m] = true) (hF : freshB (e.map (·.1)) (dstsOf (l.take n)) = true)
    (hC : Chain U P l.toArray Q N e [] (l.take n) e' []) (ho : l[m]? = some o) (h1 : o.op = .store T (.tmp t) (.tmp s)) (h2 : o.dst = none) (h4 : (P.info? T).map (·.size) = some L.n) (hx : e'.lookup s = some (true, .st L x))
    (hg : e'.lookup t = some (true, .val (.pointer (some ⟨g, 0, none⟩)))) (hBk : Blk w g T' z) (hz : z.size = L.n) (hFg : ∀ o, F (g, o)) (hu : U → ∀ {w : World} {F : Cell → Prop} {cs : List Value}, L.on w F cs x → ∀ x : Int, Value.int .u32 x ∉ cs) (hmn : m < n)
    (hQ : ∀ a' w' cs, w.grownBy w' (some g) → StE U N e' F a' w' Df → Blk w' g T' cs → L.on w' F cs.toList x → wpList P l.toArray Q (l.drop n) a' w') : (Code.region id l.toArray b).wp P Q a w := by
  refine flowG n ⟨m, some g, fun w => Blk w g T' z, fun w => ∃ cs, Blk w g T' cs ∧ L.on w F cs.toList x, fun h hb => h.below hb h.lt, fun ⟨cs, h1, h2⟩ hb => ⟨cs, h1.below hb h1.lt, L.mono h2 (.of hb) fun _ _ h => h⟩⟩ [] hm h hB hF hC (by simp [freshB]) (fun K hK o' _ ho' a w F' hsz hF' hsub hk hBw R hR => ?_) (fun g' hg' => by cases hg'; exact h.fok.lt _ (hFg 0)) (fun _ => hBk) (fun r hr => by cases hr) (by simp [freshB]) (fun h => absurd rfl h) (fun _ _ _ _ _ => rfl) fun a' w' gs hgr hG hs hn hgs hM _ => ?_
  · obtain rfl : o' = o := Option.some.inj (ho'.symm.trans ho)
    have u1 : t ∈ usesOf l.toArray o' := List.mem_append_right _ (by simp [h1, Op.operands, slotsOf])
    have u2 : s ∈ usesOf l.toArray o' := List.mem_append_right _ (by simp [h1, Op.operands, slotsOf])
    have k1 := hk t u1
    have k2 := hk s u2
    rw [hK t _ hg] at k1
    rw [hK s _ hx] at k2
    have e1 : a.eval (.tmp t) = .pointer (some ⟨g, 0, none⟩) := k1.1 rfl
    obtain ⟨cs, c1, c2⟩ := k2.1 rfl
    refine wp_store_row T (.tmp t) (.tmp s) h1 g cs.toArray e1 c1 T' z hBw (by rw [h4]; simp [L.len c2]) (by rw [hz]; simp [L.len c2]) (by simpa using L.one c2) ?_
    have hB' : Blk (w.setRow g cs.toArray) g T' cs.toArray := setRow_heap w g z cs.toArray T' (0, 0) hBw
    have hkp : Keeps F' w (w.setRow g cs.toArray) := keeps_setRow fun o => hsub _ (hFg o)
    rw [h2]
    refine hR _ ⟨rfl, rfl, rfl, by rw [size_setRow]; exact Nat.le_refl _, fun k _ hk => setRow_other w g k _ (fun e => hk (by rw [e]))⟩ (size_setRow _ _ _) hkp ⟨fun k hf => by rw [size_setRow]; exact hF'.lt k hf, fun u k hf ko x => ?_⟩ ⟨_, hB', by simpa using L.mono c2 hkp fun k _ hk => hsub k hk⟩
    by_cases e : k.1 = g
    · rw [e, hB'.cell]
      intro hh
      exact hu u c2 x (List.mem_of_getElem? (by simpa using hh))
    · rw [show (w.setRow g cs.toArray).cell? ⟨k.1, ko, none⟩ = w.cell? ⟨k.1, ko, none⟩ from World.cell?_of_block (setRow_other w g k.1 _ e)]
      exact hF'.nou u k hf ko x
  · obtain ⟨cs, g1, g2⟩ := hG hmn
    match gs, hM rfl with
    | [], _ => exact hQ a' w' cs hgr (hs.less fun k hk => .inl hk) g1 g2
/-- Stores into what the region makes: the operation, the variable's slot, the value's, what is known of the value, and of the place then. -/
abbrev Stos2 := List (Nat × Nat × Nat × Sym × Sym)
def Stos2.bare (st : Stos2) : Stos := st.map fun r => (r.1, r.2.1, r.2.2.1, r.2.2.2.1)
def Stos2.env : Stos2 → Env
  | [] => []
  | (_, t, _, _, ya) :: st => (t, true, ya) :: Stos2.env st
def StosOK (U : Prop) (P : Program) (l : List Oper) (e' : Env) (al : Made) : Stos2 → Prop
  | [] => True
  | (m, t, x, yv, ya) :: st => (∃ (o : Oper) (T' T : TypeId) (z : Array Value), l[m]? = some o ∧ o.op = .store T' (.tmp t) (.tmp x) ∧ (P.info? T').map (·.size) = some z.size ∧ al.lookup t = some (T, z) ∧ e'.lookup x = some (true, yv) ∧ Puts yv ya z.size ∧ (U → ∀ {w : World} {F : Cell → Prop} {cs : Array Value}, yv.on w F (.agg cs) → ∀ (i : Nat) (x : Int), cs[i]? ≠ some (.int .u32 x))) ∧ StosOK U P l e' al st
theorem sv {l : List Oper} {e' : Env} {al : Made} {m t x : Nat} {yv ya : Sym} {st : Stos2} {o : Oper} {T' T : TypeId} {z : Array Value} (ho : l[m]? = some o) (h1 : o.op = .store T' (.tmp t) (.tmp x)) (h3 : al.lookup t = some (T, z)) (h4 : e'.lookup x = some (true, yv)) (h5 : Puts yv ya z.size) (h2 : (P.info? T').map (·.size) = some z.size) (h6 : U → ∀ {w : World} {F : Cell → Prop} {cs : Array Value}, yv.on w F (.agg cs) → ∀ (i : Nat) (x : Int), cs[i]? ≠ some (.int .u32 x)) (hr : StosOK U P l e' al st) : StosOK U P l e' al ((m, t, x, yv, ya) :: st) := ⟨⟨o, T', T, z, ho, h1, h2, h3, h4, h5, h6⟩, hr⟩
theorem sv0 {l : List Oper} {e' : Env} {al : Made} : StosOK U P l e' al [] := True.intro
theorem stosOK_at {l : List Oper} {e' : Env} {al : Made} : ∀ {st : Stos2}, StosOK U P l e' al st → ∀ r ∈ st, ∃ (o : Oper) (T' T : TypeId) (z : Array Value), l[r.1]? = some o ∧ o.op = .store T' (.tmp r.2.1) (.tmp r.2.2.1) ∧ (P.info? T').map (·.size) = some z.size ∧ al.lookup r.2.1 = some (T, z) ∧ e'.lookup r.2.2.1 = some (true, r.2.2.2.1) ∧ Puts r.2.2.2.1 r.2.2.2.2 z.size ∧ (U → ∀ {w : World} {F : Cell → Prop} {cs : Array Value}, r.2.2.2.1.on w F (.agg cs) → ∀ (i : Nat) (x : Int), cs[i]? ≠ some (.int .u32 x))
  | _ :: _, h, r, hr => by
    rcases List.mem_cons.1 hr with rfl | hr
    · exact h.1
    · exact stosOK_at h.2 r hr
/-- A region that makes variables and stores into them, wherever the stores come. -/
theorem flowV {id : Nat} {l : List Oper} {b : Bool} {e' : Env} {al : Made} {st : Stos2} (n : Nat) (hm : P.follows .mixedOrders = true) (h : StE U N e F a w Df) (hF : freshB (e.map (·.1)) (dstsOf (l.take n)) = true)
    (hC : Chain U P l.toArray Q N e [] (l.take n) e' al) (hS : StosOK U P l e' al st) (hB : flowB l.toArray (e.map (·.1)) n N (n :: st.map (·.1)) = true) (hA : ((l.take n).all (fun o => o.dst.isNone || (usesOf l.toArray o).all fun s => !(al.map (·.1)).contains s) && freshB [] (al.map (·.1))) = true)
    (hst2 : ((st.all fun r => r.1 != n && decide (r.1 < n) && !(e.map (·.1)).contains r.2.1 && !(al.map (·.1)).contains r.2.2.1) && freshB [] (st.map (·.1)) && freshB [] (st.map (·.2.1))) = true)
    (hQ : ∀ a' w', Below w.heap.size w w' → StE U N (st.env ++ e') F a' w' Df → wpList P l.toArray Q (l.drop n) a' w') : (Code.region id l.toArray b).wp P Q a w := by
  have hm1 : st.bare.map (·.1) = st.map (·.1) := by unfold Stos2.bare; rw [List.map_map]; rfl
  have hm2 : st.bare.map (·.2.1) = st.map (·.2.1) := by unfold Stos2.bare; rw [List.map_map]; rfl
  have hlt : ∀ r ∈ st, r.1 < n := fun r hr => by
    simp only [Bool.and_eq_true, List.all_eq_true, decide_eq_true_eq] at hst2
    exact (hst2.1.1 r hr).1.1.2
  refine flowG n (Spec1.no n) st.bare hm h (by rw [hm1]; exact hB) hF hC hA (fun _ _ _ hi => absurd hi (Nat.lt_irrefl _)) (fun g hg => by cases hg) (fun hi => absurd hi (Nat.lt_irrefl _)) (fun r' hr' hi o ho => ?_) ?_ (fun _ => ⟨fun _ => True.intro, fun _ => True.intro⟩) (fun hi => absurd hi (Nat.lt_irrefl _)) fun a' w' gs hg _ hs hn hgs _ hV => ?_
  · obtain ⟨r, hr, rfl⟩ := List.mem_map.1 hr'
    obtain ⟨o', T', T, z, h0, h1, h2, h3, h4, h5, h6⟩ := stosOK_at hS r hr
    rw [h0] at ho; cases ho
    exact ⟨⟨T', T, z, h1, h2, h3, fun hy => by obtain ⟨cs, c1, c2, c3, _⟩ := h5 hy; exact ⟨cs, c1, c2, c3⟩⟩, h4, h6⟩
  · rw [hm1, hm2]
    simp only [Bool.and_eq_true, List.all_eq_true, bne_iff_ne, Bool.not_eq_true', decide_eq_true_eq] at hst2 ⊢
    refine ⟨⟨fun r' hr' => ?_, hst2.1.2⟩, hst2.2⟩
    obtain ⟨r, hr, rfl⟩ := List.mem_map.1 hr'
    obtain ⟨⟨⟨q1, _⟩, q2⟩, q3⟩ := hst2.1.1 r hr
    exact ⟨⟨q1, q2⟩, q3⟩
  · have hsF := hs.less (F' := F) fun k hk => .inl hk
    have hfg : ∀ g ∈ gs, ∀ o, ¬ F (g, o) := fun g hg o hf => by
      have := h.fok.lt (g, o) hf
      have := hgs g hg
      simp only at *
      omega
    refine hQ a' w' (below_of_none hg) ⟨hsF.size, hsF.defers, hsF.fok, fun s k hk => ?_⟩
    have : ∀ (st' : Stos2), (∀ r ∈ st', r ∈ st) → (st'.env ++ e').lookup s = some k → KnownV k w' F (a'.tmps.getD s undef) := by
      intro st'
      induction st' with
      | nil => intro _ hk; exact hsF.known s k hk
      | cons r t ih =>
        clear hk
        intro hsub hk
        rw [show (Stos2.env (r :: t) ++ e' : Env) = (r.2.1, true, r.2.2.2.2) :: (Stos2.env t ++ e') from rfl, List.lookup_cons] at hk
        cases hb : s == r.2.1 with
        | false => rw [hb] at hk; exact ih (fun r hr => hsub r (List.mem_cons_of_mem _ hr)) hk
        | true =>
          rw [hb] at hk; simp at hk hb; subst hb hk
          have hr := hsub r List.mem_cons_self
          obtain ⟨g, g1, g2, T, cs, g3, g4⟩ := hV (r.1, r.2.1, r.2.2.1, r.2.2.2.1) (List.mem_map.2 ⟨r, hr, rfl⟩) (hlt r hr)
          obtain ⟨_, _, _, _, _, _, _, _, _, h5, _⟩ := stosOK_at hS r hr
          obtain ⟨cs', c1, _, _, c4⟩ := h5 g4
          cases c1
          refine ⟨fun _ => ?_, (fun e => by cases e)⟩
          rw [g2]
          exact c4 w' F g T (.refl _ _) (fun k _ hk => .inl hk) g3 (hfg g g1)
    exact this st (fun _ h => h) hk
theorem puts_nou {α : Type} {L : Lay α} {x : α} (h : U → ∀ {w : World} {F : Cell → Prop} {cs : List Value}, L.on w F cs x → ∀ x : Int, Value.int .u32 x ∉ cs) : U → ∀ {w : World} {F : Cell → Prop} {cs : Array Value}, (Sym.st L x).on w F (.agg cs) → ∀ (i : Nat) (x : Int), cs[i]? ≠ some (.int .u32 x) := by
  rintro u w F cs ⟨cs', e, hL⟩ i y hi
  cases e
  exact h u hL y (List.mem_of_getElem? (by simpa using hi))
theorem below_grown {W w w' : World} {g : Nat} (h : Below W.heap.size W w) (hg : w.grownBy w' (some g)) (hW : W.heap.size ≤ g) : Below W.heap.size W w' := h.grown hg h.size fun k e => by cases e; exact hW
/-- The end: a value in a slot. -/
theorem ret_tmp {fn : Func} {W : World} {F0 : Cell → Prop} {y : Sym} (h : StE U N e F a w) (s : Nat) (hr : fn.results = #[.tmp s]) (hs : e.lookup s = some (true, y)) (hF : ∀ k : Cell, F0 k → F k) (hW : Below W.heap.size W w) :
    bodyPost P fn (fun e w' => ∃ v, e = .returned v ∧ y.on w' F0 v ∧ Below W.heap.size W w') .ret a w :=
  (bodyPost_ret (results_tmp hr _ _ _) h.defers ⟨_, rfl, y.mono (h.get s hs) (.refl _ _) fun k _ hk => hF k hk, hW⟩)
/-- The end: a struct's value in a variable. -/
theorem ret_cell {fn : Func} {W : World} {F0 : Cell → Prop} {α : Type} {L : Lay α} {x : α} {T T' : TypeId} {ty : TypeDesc} {g : Nat} {cs : Array Value} (h : StE U N e F a w) (t : Nat) (hr : fn.results = #[.cell t T]) (hg : e.lookup t = some (true, .val (.pointer (some ⟨g, 0, none⟩)))) (hu : P.underlying T = some ty) (hd : ty.isRow = true) (hn : (P.info? T).map (·.size) = some L.n)
    (hB : Blk w g T' cs) (hL : L.on w F cs.toList x) (hF : ∀ k : Cell, F0 k → F k) (hW : Below W.heap.size W w) :
    bodyPost P fn (fun e w' => ∃ v, e = .returned v ∧ (Sym.st L x).on w' F0 v ∧ Below W.heap.size W w') .ret a w :=
  (bodyPost_ret (results_cell_row hr _ _ g T' cs (0, 0) ty (h.get t hg) hB hu (by cases ty <;> simp_all [TypeDesc.isRow]) (by rw [hn, ← L.len hL]; simp)) h.defers ⟨_, rfl, ⟨cs.toList, by simp, L.mono hL (.refl _ _) fun k _ hk => hF k hk⟩, hW⟩)
/-- The end: a struct's value in a variable, and a value in a slot. -/
theorem ret_cell2 {fn : Func} {W : World} {F0 : Cell → Prop} {α : Type} {L : Lay α} {x : α} {y : Sym} {T T' : TypeId} {ty : TypeDesc} {g : Nat} {cs : Array Value} (h : StE U N e F a w) (t s : Nat) (hr : fn.results = #[.cell t T, .tmp s]) (hg : e.lookup t = some (true, .val (.pointer (some ⟨g, 0, none⟩)))) (hs : e.lookup s = some (true, y)) (hu : P.underlying T = some ty) (hd : ty.isRow = true) (hn : (P.info? T).map (·.size) = some L.n)
    (hB : Blk w g T' cs) (hL : L.on w F cs.toList x) (hF : ∀ k : Cell, F0 k → F k) (hW : Below W.heap.size W w) :
    bodyPost P fn (fun e w' => ∃ v, e = .returned v ∧ (Sym.two (.st L x) y).on w' F0 v ∧ Below W.heap.size W w') .ret a w := by
  have hl : (loadVar T ⟨g, 0, none⟩).run P w = .ok (.agg cs) w := by
    have := run_loadVar_mid (P := P) w g 0 T cs.toList ty (fun j v hv => by rw [Nat.zero_add, hB.cell]; simpa using hv) hu hd (by rw [hn, ← L.len hL])
    simpa using this
  have hp : a.tmps[t]?.getD undef = .pointer (some ⟨g, 0, none⟩) := by
    have : a.tmps.getD t undef = _ := h.get t hg
    rw [Array.getD_eq_getD_getElem?] at this
    exact this
  refine (bodyPost_ret (v := .tuple #[.agg cs, a.tmps.getD s undef]) ?_ h.defers ⟨_, rfl, ⟨_, _, rfl, ⟨cs.toList, by simp, L.mono hL (.refl _ _) fun k _ hk => hF k hk⟩, y.mono (h.get s hs) (.refl _ _) fun k _ hk => hF k hk⟩, hW⟩)
  simp [results, hr, hp, asAddr, hl]

/-- A loop that counts. -/
theorem wp_count {c : Code} (n s : Nat) (I : Nat → Act → World → Prop) (hs : ∀ i a w, I i a w → a.tmps.getD s undef = .int .i64 i) (h0 : I 0 a w)
    (round : ∀ i a w, i ≤ n → I i a w → c.wp P (Exit.then (fun a' w' => i < n ∧ I (i + 1) a' w') Q) a w) : (Code.loop c).wp P Q a w := by
  refine wp_loop (fun a w => ∃ i, i ≤ n ∧ I i a w) (fun a _ => n - (intOf (a.tmps.getD s undef)).toNat) ⟨0, Nat.zero_le _, h0⟩ fun a w ⟨i, hi, hI⟩ => ?_
  refine Code.wp_mono (fun e a' w' q => ?_) (round i a w hi hI)
  cases e with
  | normal =>
    obtain ⟨h1, h2⟩ := q
    refine ⟨⟨i + 1, h1, h2⟩, ?_⟩
    rw [hs _ _ _ hI, hs _ _ _ h2]
    simp [intOf]
    omega
  | _ => exact q
/-- A loop over the numbers below n: what is carried from round to round hangs on the count. -/
theorem wp_rangeV {c : Code} {W : World} {e0 : Env} (val : Nat → Value) (hval : ∀ i, (intOf (val i) - intOf (val 0)).toNat = i) (n s : Nat) (J : Nat → Env) (X : Nat → World → Prop) (h : StE U N ((s, true, .val (val 0)) :: (J 0 ++ e0)) F a w Df) (hz : Below W.heap.size W w) (hX : X 0 w)
    (round : ∀ i a w, i ≤ n → StE U N ((s, true, .val (val i)) :: (J i ++ e0)) F a w Df → Below W.heap.size W w → X i w → c.wp P (Exit.then (fun a' w' => i < n ∧ StE U N ((s, true, .val (val (i + 1))) :: (J (i + 1) ++ e0)) F a' w' Df ∧ Below W.heap.size W w' ∧ X (i + 1) w') Q) a w) : (Code.loop c).wp P Q a w := by
  refine wp_loop (fun a w => ∃ i, i ≤ n ∧ StE U N ((s, true, .val (val i)) :: (J i ++ e0)) F a w Df ∧ Below W.heap.size W w ∧ X i w) (fun a _ => n - (intOf (a.tmps.getD s undef) - intOf (val 0)).toNat) ⟨0, Nat.zero_le _, h, hz, hX⟩ fun a w ⟨i, hi, h1, h2, h3⟩ => ?_
  refine Code.wp_mono (fun e a' w' q => ?_) (round i a w hi h1 h2 h3)
  cases e with
  | normal =>
    obtain ⟨q1, q2, q3, q4⟩ := q
    refine ⟨⟨i + 1, q1, q2, q3, q4⟩, ?_⟩
    rw [h1.get s (y := .val (val i)) (by rw [List.lookup_cons]; simp), q2.get s (y := .val (val (i + 1))) (by rw [List.lookup_cons]; simp), hval, hval]
    omega
  | _ => exact q
theorem wp_range {c : Code} {W : World} {e0 : Env} (n s : Nat) (J : Nat → Env) (X : Nat → World → Prop) (h : StE U N ((s, true, .int .i64 ((0 : Nat) : Int)) :: (J 0 ++ e0)) F a w Df) (hz : Below W.heap.size W w) (hX : X 0 w)
    (round : ∀ i a w, i ≤ n → StE U N ((s, true, .int .i64 (i : Int)) :: (J i ++ e0)) F a w Df → Below W.heap.size W w → X i w → c.wp P (Exit.then (fun a' w' => i < n ∧ StE U N ((s, true, .int .i64 ((i + 1 : Nat) : Int)) :: (J (i + 1) ++ e0)) F a' w' Df ∧ Below W.heap.size W w' ∧ X (i + 1) w') Q) a w) : (Code.loop c).wp P Q a w :=
  wp_rangeV (fun i => .int .i64 (i : Int)) (fun i => by simp [intOf]) n s J X h hz hX round
/-- A number is known by another name. -/
theorem int_as {k : IntKind} {a b : Int} {v : Value} (h : v = .int k a) (e : a = b) : v = .int k b := e ▸ h
theorem bool_as {a b : Bool} {v : Value} (h : v = .bool a) (e : a = b) : v = .bool b := e ▸ h
theorem wrap_inc {i : Nat} (h : i + 1 < 9223372036854775808) : IntKind.i64.wrap ((i : Int) + 1) = ((i + 1 : Nat) : Int) := by rw [IntKind.wrap_i64]; omega
/-- A law's end. -/
theorem ret_law {fn : Func} {W : World} {b : Bool} (h : StE U N e F a w) (s : Nat) (hr : fn.results = #[.tmp s]) (hs : e.lookup s = some (true, .bool b)) (hb : b = true) (hW : Below W.heap.size W w) :
    bodyPost P fn (fun e w' => e = .returned (.bool true) ∧ Below W.heap.size W w') .ret a w := by
  subst hb
  refine bodyPost_ret (results_tmp hr _ _ _) h.defers ⟨?_, hW⟩
  rw [show a.tmps.getD s undef = .bool true from h.get s hs]
end
end Go.Proofs.Ytbeeiecbbmiojaa.Y
