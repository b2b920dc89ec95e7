/- A region in any order whose head stores to fields of one block. No program in sight. -/
import Derived.Test.YtihddficgpjgpaaZYfld
namespace Go.Proofs.Ytihddficgpjgpaa.Y
open Go.RowKit
/-- A store to a field: the operation, the place's slot, the value's, what is known of it, the place, what it makes of the variable. -/
structure StM (α : Type) where
  m : Nat
  t : Nat
  s : Nat
  y : Sym
  off : Nat
  up : α → α
structure StMOK {α : Type} (P : Program) (l : List Oper) (e' : Env) (L : Lay α) (g : Nat) (r : StM α) : Prop where
  ex : ∃ (o : Oper) (T : TypeId), l[r.m]? = some o ∧ o.op = .store T (.tmp r.t) (.tmp r.s) ∧
    ∀ {w : World} {F : Cell → Prop} {cs : List Value} {x : α} {v : Value}, L.on w F cs x → r.y.on w F v → ∃ c1 c2 c3 vs, cs = c1 ++ (c2 ++ c3) ∧ c1.length = r.off ∧ c2.length = vs.length ∧ v.cells = vs.toArray ∧ (P.info? T).map (·.size) = some vs.length ∧ L.on w F (c1 ++ (vs ++ c3)) (r.up x)
  at_ : e'.lookup r.t = some (true, .val (.pointer (some ⟨g, r.off, none⟩)))
  val : e'.lookup r.s = some (true, r.y)
theorem fm {P : Program} {α β : Type} {l : List Oper} {e' : Env} {L : Lay α} {L' : Lay β} {b : β} {up : α → β → α} {g m t s off : Nat} {y : Sym} {o : Oper} {T : TypeId} (ho : l[m]? = some o) (h1 : o.op = .store T (.tmp t) (.tmp s)) (ht : e'.lookup t = some (true, .val (.pointer (some ⟨g, off, none⟩)))) (hs : e'.lookup s = some (true, y)) (hn : (P.info? T).map (·.size) = some L'.n) (hP : PartW L L' off up) (hy : Sto y L' b) : StMOK P l e' L g ⟨m, t, s, y, off, fun x => up x b⟩ :=
  ⟨⟨o, T, ho, h1, fun hL hv => by
    obtain ⟨vs, e1, e2⟩ := hy hv
    obtain ⟨c1, c2, c3, e3, e4, e5, e6⟩ := hP hL e2
    have el := L'.len e2
    exact ⟨c1, c2, c3, vs, e3, e4, by rw [e5, el], e1, by rw [hn, el], e6⟩⟩, ht, hs⟩
def AllM {α : Type} (p : StM α → Prop) : List (StM α) → Prop
  | [] => True
  | r :: t => p r ∧ AllM p t
theorem allM_at {α : Type} {p : StM α → Prop} : ∀ {st : List (StM α)}, AllM p st → ∀ r ∈ st, p r
  | _ :: _, h, r, hr => by
    rcases List.mem_cons.1 hr with rfl | hr
    · exact h.1
    · exact allM_at h.2 r hr
structure InvM {α : Type} (U : Prop) (ops : Array Oper) (K : Nat → Bool × Sym) (D : List Nat) (n N g : Nat) (Tg : TypeId) (L : Lay α) (X : (Nat → Bool) → α) (w0 : World) (F : Cell → Prop) (listed : Array Bool) (a : Act) (w : World) : Prop where
  size : a.tmps.size = N
  defers : a.defers = []
  grown : w0.grownBy w (some g)
  blk : ∃ cs, Blk w g Tg cs ∧ L.on w F cs.toList (X fun i => listed.getD i true)
  fok : FOK U F w
  env : ∀ s ∈ D, KnownV (K s) w F (a.tmps.getD s undef)
  head : ∀ i o d, i < n → listed.getD i true = true → ops[i]? = some o → o.dst = some d → KnownV (K d) w F (a.tmps.getD d undef)
section
variable {U : Prop} {P : Program} {ops : Array Oper} {Q : Exit → Act → World → Prop} {N : Nat} {α : Type} {L : Lay α} {X : (Nat → Bool) → α} {K : Nat → Bool × Sym} {D ms : List Nat} {n g : Nat} {Tg : TypeId} {w0 w w' : World} {F : Cell → Prop} {listed : Array Bool} {a : Act} {i : Nat} {o : Oper}
theorem getD_flag {listed : Array Bool} {i : Nat} (hz : i < listed.size) : (fun j => (listed.setIfInBounds i true).getD j true) = fun j => if j = i then true else listed.getD j true := by
  funext j
  by_cases h : j = i
  · subst h; simp [hz]
  · rw [if_neg h, getD_set_ne true (Ne.symm h)]
theorem InvM.step {v : Value} (fb : FlowB ops D n N ms) (inv : InvM U ops K D n N g Tg L X w0 F listed a w) (hi : i < n) (him : i ∉ ms) (hz : i < listed.size) (ho : ops[i]? = some o) (hX : X (fun j => if j = i then true else listed.getD j true) = X fun j => listed.getD j true)
    (hb : Below w.heap.size w w') (hv : ∀ d, o.dst = some d → KnownV (K d) w' F v) :
    InvM U ops K D n N g Tg L X w0 F (listed.setIfInBounds i true) (a.put o.dst v) w' := by
  obtain ⟨d, hd, hdN, hdD⟩ := fb.dst i o hi him ho
  have hput : (a.put o.dst v).tmps = a.tmps.setIfInBounds d v := by rw [hd]; rfl
  have hdef : (a.put o.dst v).defers = a.defers := by rw [hd]; rfl
  have hds : d < a.tmps.size := by rw [inv.size]; exact hdN
  have other : ∀ s, s ≠ d → (a.put o.dst v).tmps.getD s undef = a.tmps.getD s undef := fun s hs => by rw [hput]; exact getD_put_ne (Ne.symm hs)
  have mine : (a.put o.dst v).tmps.getD d undef = v := by rw [hput]; exact getD_put_eq hds
  refine ⟨by rw [hput]; simp [inv.size], hdef.trans inv.defers, only_trans inv.grown (only_of_below hb _), ?_, inv.fok.below hb, fun s hs => ?_, fun j oj dj hj hl hoj hdj => ?_⟩
  · obtain ⟨cs, h1, h2⟩ := inv.blk
    rw [getD_flag hz, hX]
    exact ⟨cs, h1.below hb h1.lt, L.mono h2 (.of hb) fun _ _ h => h⟩
  · rw [other s fun e => hdD (e ▸ hs)]
    exact (inv.env s hs).mono (.of hb) fun _ _ h => h
  · by_cases e : j = i
    · subst e
      rw [ho] at hoj; cases hoj
      rw [hd] at hdj; cases hdj
      rw [mine]
      exact hv d hd
    · have hne : dj ≠ d := fun e' => by subst e'; exact e (fb.own i o dj j oj hi ho hd hj hoj hdj)
      rw [other dj hne]
      exact (inv.head j oj dj hj (by rwa [getD_set_ne true (Ne.symm e)] at hl) hoj hdj).mono (.of hb) fun _ _ h => h
theorem InvM.stepS {cs : Array Value} (fb : FlowB ops D n N ms) (inv : InvM U ops K D n N g Tg L X w0 F listed a w) (hFg : ∀ o, F (g, o)) (hi : i < n) (him : i ∈ ms) (hz : i < listed.size) (ho : ops[i]? = some o)
    (hg : w.grownBy w' (some g)) (hB : Blk w' g Tg cs) (hL : L.on w' F cs.toList (X fun j => if j = i then true else listed.getD j true)) (hu : U → ∀ x : Int, Value.int .u32 x ∉ cs.toList) :
    InvM U ops K D n N g Tg L X w0 F (listed.setIfInBounds i true) a w' := by
  obtain ⟨hd0, _⟩ := fb.sp i o hi him ho
  have hk : Keeps F w w' := keeps_grown hg hFg
  refine ⟨inv.size, inv.defers, only_trans inv.grown hg, ⟨cs, hB, by rw [getD_flag hz]; exact hL⟩, ⟨fun k hk => Nat.lt_of_lt_of_le (inv.fok.lt k hk) hg.size, fun u k hk o x => ?_⟩, fun s hs => (inv.env s hs).mono hk fun _ _ h => h, fun j oj dj hj hl hoj hdj => ?_⟩
  · by_cases e : k.1 = g
    · rw [e]; exact nou_cells hB (hu u) o x
    · rw [show w'.cell? ⟨k.1, o, none⟩ = w.cell? ⟨k.1, o, none⟩ from World.cell?_of_block (hg.block k.1 (inv.fok.lt k hk) fun e' => e (by injection e'))]
      exact inv.fok.nou u k hk o x
  · have hne : j ≠ i := fun e => by
      subst e
      rw [ho] at hoj; cases hoj
      rw [hd0] at hdj; cases hdj
    exact (inv.head j oj dj hj (by rwa [getD_set_ne true (Ne.symm hne)] at hl) hoj hdj).mono hk fun _ _ h => h
/-- A drawn region whose head stores to fields of one block. -/
theorem flowM {id : Nat} {l : List Oper} {e e' : Env} {cs : Array Value} {a : Act} {w : World} (n g : Nat) (st : List (StM α)) (X : (Nat → Bool) → α) (x0 x1 : α) (hm : P.follows .mixedOrders = true) (h : StE U N e F a w) (hFg : ∀ o, F (g, o)) (hB : Blk w g Tg cs) (hL : L.on w F cs.toList x0)
    (hfB : flowB l.toArray (e.map (·.1)) n N (n :: st.map (·.m)) = true) (hF : freshB (e.map (·.1)) (dstsOf (l.take n)) = true) (hC : Chain U P l.toArray Q N e [] (l.take n) e' []) (hst : AllM (StMOK P l e' L g) st)
    (h0 : ∀ fl : Nat → Bool, (∀ r ∈ st, fl r.m = false) → X fl = x0) (h1 : ∀ fl : Nat → Bool, (∀ r ∈ st, fl r.m = true) → X fl = x1) (hX : ∀ fl : Nat → Bool, AllM (fun r => fl r.m = false → X (fun j => if j = r.m then true else fl j) = r.up (X fl)) st) (hX2 : ∀ (fl : Nat → Bool) (i : Nat), (∀ r ∈ st, r.m ≠ i) → X (fun j => if j = i then true else fl j) = X fl)
    (hms : (st.all fun r => decide (r.m < n)) = true) (hu : U → ∀ (fl : Nat → Bool) {w : World} {F : Cell → Prop} {cs : List Value}, L.on w F cs (X fl) → ∀ x : Int, Value.int .u32 x ∉ cs)
    (hQ : ∀ a' w' cs', w.grownBy w' (some g) → Blk w' g Tg cs' → L.on w' F cs'.toList x1 → StE U N e' F a' w' → wpList P l.toArray Q (l.drop n) a' w') : (Code.region id l.toArray true).wp P Q a w := by
  have fb := flowB_iff hfB
  have I1 := chain_ok hC hF (fun s hs => by cases hs)
  have up0 : ∀ s k, e.lookup s = some k → e'.lookup s = some k := fun s k hs => I1.ext s k hs
  obtain ⟨K, hKd⟩ : ∃ K : Nat → Bool × Sym, K = fun s => (e'.lookup s).getD (true, Sym.any) := ⟨_, rfl⟩
  have hK : ∀ s k, e'.lookup s = some k → K s = k := fun s k hs => by rw [hKd]; show (e'.lookup s).getD _ = k; rw [hs]; rfl
  have hl0 : ∀ i o, l.toArray[i]? = some o → l[i]? = some o := fun i o ho => by rwa [List.getElem?_toArray] at ho
  refine wp_region_any hm ?_
  have hun : ∀ i, i < n → (Array.replicate l.toArray.size false).getD i true = false := fun i hi => getD_in (by have := fb.le; simp at this ⊢; omega) (getD_replicate_false _ _)
  have inv0 : HeadInv .any l.toArray n (Array.replicate l.toArray.size false) :=
    ⟨by simp, fun j oj _ hl => (by rw [getD_replicate_false] at hl; cases hl), fun t _ ht => getD_in (by simpa using ht) (getD_replicate_false _ _)⟩
  have hmn : ∀ r ∈ st, r.m < n := fun r hr => of_decide_eq_true (List.all_eq_true.1 hms r hr)
  have H := wpAny_gen (P := P) (Q := Q) (ops := l.toArray) (N := N) rfl fb (InvM U l.toArray K (e.map (·.1)) n N g Tg L X w F) (fun listed a w2 i o hi ho hunl hz hnow hI R hR => by
      have hknow : ∀ s ∈ usesOf l.toArray o, KnownV (K s) w2 F (a.tmps.getD s undef) := fun s hs => by
        rcases hnow s hs with h | ⟨i', o', e1, e2, e3, e4⟩
        · exact hI.env s h
        · exact hI.head i' o' s e1 e2 e3 e4
      by_cases him : i ∈ n :: st.map (·.m)
      · obtain ⟨hd0, hg0⟩ := fb.sp i o hi him ho
        rcases List.mem_cons.1 him with e0 | him2
        · omega
        · obtain ⟨r, hr, rfl⟩ := List.mem_map.1 him2
          have ok := allM_at hst r hr
          obtain ⟨o', T, q1, q2, q3⟩ := ok.ex
          have ho2 := hl0 _ o ho
          rw [q1] at ho2
          obtain rfl : o' = o := Option.some.inj ho2
          have k1 := hknow r.t (List.mem_append_right _ (by simp [q2, Op.operands, slotsOf]))
          have k2 := hknow r.s (List.mem_append_right _ (by simp [q2, Op.operands, slotsOf]))
          rw [hK _ _ ok.at_] at k1
          rw [hK _ _ ok.val] at k2
          obtain ⟨cs2, hB2, hL2⟩ := hI.blk
          obtain ⟨c1, c2, c3, vs, e3, e4, e5, e6, e7, e8⟩ := q3 hL2 (k2.1 rfl)
          have hXr := allM_at (hX fun i => listed.getD i true) r hr hunl
          rw [← hXr] at e8
          rw [if_pos (by simp [Region.wanted, hg0])]
          refine fld_wp q2 (show a.eval (.tmp r.t) = _ from k1.1 rfl) (show (a.eval (.tmp r.s)).cells = _ from e6) hB2 e3 e4 e5 e7 e8 hFg fun cs' w' hB' hL' hG _ => ?_
          rw [hd0]
          exact hR _ w' (hI.stepS fb hFg hi him hz ho hG hB' hL' fun u => hu u _ hL')
      · have hdst : o.dst ≠ none := by
          obtain ⟨d, hd, _⟩ := fb.dst i o hi him ho
          rw [hd]; exact fun h => by cases h
        have H := I1.ok K hK i o (by rw [List.getElem?_take, if_pos hi]; exact hl0 i o ho) hdst a w2 F hI.size hI.fok hknow R
        exact H fun v w' hb hv => hR _ w' (hI.step fb hi him hz ho (hX2 _ i fun r hr e => him (List.mem_cons_of_mem _ (List.mem_map.2 ⟨r, hr, e⟩))) hb hv))
    (fun a' w' listed hall hI => by
      obtain ⟨cs', hB', hL'⟩ := hI.blk
      rw [h1 (fun i => listed.getD i true) fun r hr => hall r.m (hmn r hr)] at hL'
      refine hQ a' w' cs' hI.grown hB' hL' ⟨hI.size, hI.defers, hI.fok, fun s k hk => ?_⟩
      rcases List.mem_append.1 (I1.keys s k hk) with h1 | h1
      · have := hI.env s h1
        rwa [hK s k hk] at this
      · obtain ⟨o, ho, hd⟩ := List.mem_flatMap.1 h1
        obtain ⟨i, hi, rfl⟩ := List.getElem_of_mem ho
        have h2 := List.getElem?_eq_getElem hi
        simp only [List.length_take] at hi
        rw [List.getElem?_take, if_pos (by omega)] at h2
        have := hI.head i _ s (by omega) (hall i (by omega)) (by rw [List.getElem?_toArray]; exact h2) (by simpa using hd)
        rwa [hK s k hk] at this)
    n (Array.replicate l.toArray.size false) a w.drew
      (by unfold todo; exact Nat.le_trans (List.length_filter_le _ _) (by simp)) inv0
      ⟨h.size, h.defers, only_drew (only_refl _ _), ⟨cs, hB, by
        rw [h0 (fun i => (Array.replicate l.toArray.size false).getD i true) fun r hr => hun r.m (hmn r hr)]
        exact L.mono hL (.of (Below.refl _ _).drew) fun _ _ h => h⟩, h.fok.below (Below.refl _ _).drew, fun s hs => (by
        obtain ⟨k, hk⟩ := lookup_some hs
        rw [hK s k (up0 s k hk)]
        exact (h.known s k hk).below (Below.refl _ _).drew), (fun i o d hi h => by rw [hun i hi] at h; cases h)⟩
  refine wpAny_le ?_ H
  have := fb.le
  omega
end
end Go.Proofs.Ytihddficgpjgpaa.Y
