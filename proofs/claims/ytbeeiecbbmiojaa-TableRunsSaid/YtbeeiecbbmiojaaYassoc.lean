/- Maps of a call's own whose keys are whole numbers, told as lists of pairs. No program in sight. -/
import Derived.Test.YtbeeiecbbmiojaaYpk
import Derived.Maps.Keyed
import Derived.Carry
namespace Go.Proofs.Ytbeeiecbbmiojaa.Y
open Go.RowKit Go.ChangeMaps Go.MapKept
variable {Df : List Deferred}

/-- Block b is a map of these pairs, no key twice. -/
def MapAt (w : World) (b : Nat) (k : IntKind) (l : List (Int × Value)) : Prop :=
  ∃ es clock, w.heap[b]? = some (.map es clock) ∧ es.toList.map (fun x => (x.key, x.val)) = l.map (fun p => (Value.int k p.1, p.2)) ∧ (l.map (·.1)).Nodup ∧ Stamped es clock
/-- A pair is put, or laid anew. -/
def putA (l : List (Int × Value)) (x : Int) (v : Value) : List (Int × Value) := if x ∈ l.map (·.1) then l.map (fun p => if p.1 = x then (x, v) else p) else l ++ [(x, v)]
def delA (l : List (Int × Value)) (x : Int) : List (Int × Value) := l.filter fun p => p.1 != x
theorem putA_keys (l : List (Int × Value)) (x : Int) (v : Value) : (putA l x v).map (·.1) = if x ∈ l.map (·.1) then l.map (·.1) else l.map (·.1) ++ [x] := by
  unfold putA
  split
  · rw [List.map_map]
    apply List.map_congr_left
    intro p _
    simp only [Function.comp]
    split
    · rename_i h; exact h.symm
    · rfl
  · simp
theorem mem_keys {l : List (Int × Value)} {x : Int} {v : Value} (h : (x, v) ∈ l) : x ∈ l.map (·.1) := List.mem_map.2 ⟨_, h, rfl⟩
section
variable {P : Program} {w w' : World} {b : Nat} {k : IntKind} {l : List (Int × Value)}
theorem MapAt.lt (h : MapAt w b k l) : b < w.heap.size := by
  obtain ⟨es, c, h1, _⟩ := h
  exact (Array.getElem?_eq_some_iff.1 h1).1
theorem MapAt.same (h : MapAt w b k l) (hb : w'.heap[b]? = w.heap[b]?) : MapAt w' b k l := by
  obtain ⟨es, c, h1, h2⟩ := h
  exact ⟨es, c, hb.trans h1, h2⟩
theorem MapAt.below (h : MapAt w b k l) (hb : Below w.heap.size w w') : MapAt w' b k l := h.same (hb.block b h.lt)
theorem MapAt.nocell (h : MapAt w b k l) (o : Nat) (x : Int) : w.cell? ⟨b, o, none⟩ ≠ some (.int .u32 x) := by
  obtain ⟨es, c, h1, _⟩ := h
  intro h
  simp [World.cell?, h1] at h
theorem map_made (w : World) (k : IntKind) : MapAt (w.alloc (.map #[] 0)) w.heap.size k [] := ⟨#[], 0, (MapKept.heap_alloc w _).1, rfl, List.nodup_nil, stamped_empty 0⟩
theorem pairs_keys {es : List MapEntry} (h : es.map (fun x => (x.key, x.val)) = l.map (fun p => (Value.int k p.1, p.2))) : ∀ e ∈ es, IsKey (.int k) e.key := fun e he => by
  have : (e.key, e.val) ∈ l.map (fun p => (Value.int k p.1, p.2)) := by rw [← h]; exact List.mem_map.2 ⟨e, he, rfl⟩
  obtain ⟨p, _, hp⟩ := List.mem_map.1 this
  injection hp with h1 _
  rw [← h1]
  simp [IsKey]
theorem pairs_at {es : List MapEntry} (h : es.map (fun x => (x.key, x.val)) = l.map (fun p => (Value.int k p.1, p.2))) {j : Nat} {e : MapEntry} (he : es[j]? = some e) : ∃ p, l[j]? = some p ∧ e.key = .int k p.1 ∧ e.val = p.2 := by
  have h1 : (es.map (fun x => (x.key, x.val)))[j]? = some (e.key, e.val) := by rw [List.getElem?_map, he]; rfl
  rw [h, List.getElem?_map] at h1
  cases hp : l[j]? with
  | none => rw [hp] at h1; cases h1
  | some p =>
    rw [hp] at h1
    simp only [Option.map_some, Option.some.injEq, Prod.mk.injEq] at h1
    exact ⟨p, rfl, h1.1.symm, h1.2.symm⟩
theorem isKey (x : Int) : IsKey (.int k) (.int k x) := by simp [IsKey]
/-- Where a key is. -/
theorem find_pairs {es : List MapEntry} (h : es.map (fun x => (x.key, x.val)) = l.map (fun p => (Value.int k p.1, p.2))) (x : Int) :
    (Instr.findNow (.int k) (.int k x) es 0 = some none ∧ x ∉ l.map (·.1)) ∨ ∃ j v, Instr.findNow (.int k) (.int k x) es 0 = some (some (j, v)) ∧ l[j]? = some (x, v) ∧ (es[j]?).map (·.key) = some (.int k x) := by
  rcases findNow_spec (isKey x) es 0 (pairs_keys h) with ⟨h1, h2⟩ | ⟨j, e, h1, h2, h3⟩
  · refine .inl ⟨h1, fun hx => ?_⟩
    obtain ⟨p, hp, rfl⟩ := List.mem_map.1 hx
    have : (Value.int k p.1, p.2) ∈ es.map (fun x => (x.key, x.val)) := by rw [h]; exact List.mem_map.2 ⟨p, hp, rfl⟩
    obtain ⟨e, he, hh⟩ := List.mem_map.1 this
    injection hh with h4 _
    exact h2 e he h4
  · obtain ⟨⟨y, v⟩, hp, h4, h5⟩ := pairs_at h h2
    rw [h3] at h4
    injection h4 with _ h4
    subst h4
    exact .inr ⟨j, e.val, by simpa using h1, by rw [hp, h5], by rw [h2]; simp [h3]⟩
theorem lookup_at {l : List (Int × Value)} (hn : (l.map (·.1)).Nodup) : ∀ {j : Nat} {x : Int} {v : Value}, l[j]? = some (x, v) → l.lookup x = some v := by
  induction l with
  | nil => intro j x v h; simp at h
  | cons p t ih =>
    intro j x v h
    rw [List.map_cons, List.nodup_cons] at hn
    rw [show p = (p.1, p.2) from rfl, List.lookup_cons]
    cases j with
    | zero => simp at h; subst h; simp
    | succ j =>
      have h' : t[j]? = some (x, v) := by simpa using h
      have : x ≠ p.1 := fun e => hn.1 (e ▸ mem_keys (List.mem_of_getElem? h'))
      rw [show (x == p.1) = false by simpa using this]
      exact ih hn.2 h'
theorem lookup_no : ∀ {l : List (Int × Value)} {x : Int}, x ∉ l.map (·.1) → l.lookup x = none
  | [], _, _ => rfl
  | p :: t, x, h => by
    rw [List.map_cons, List.mem_cons, not_or] at h
    rw [show p = (p.1, p.2) from rfl, List.lookup_cons, show (x == p.1) = false by simpa using h.1]
    exact lookup_no h.2
theorem run_look {t kt et : TypeId} {z : Value} (h : MapAt w b k l) (ht : P.underlying t = some (.map kt et)) (hk : P.underlying kt = some (.int k)) (hz : (zeroValue et).run P w = .ok z w) (x : Int) :
    (Instr.lookup t (.map (some b)) (.int k x) false).run P w = .ok ((l.lookup x).getD z) w := by
  obtain ⟨es, c, h1, h2, hn, hst⟩ := h
  rcases find_pairs h2 x with ⟨h3, h4⟩ | ⟨j, v, h3, h4, _⟩
  · rw [lookup_no h4]
    simp [Instr.lookup, run_underlying ht, MapKept.run_getObj_map h1, run_checkKey hk (isKey x), run_findKey hk h3, hz, Result.andThen]
  · rw [lookup_at hn h4]
    simp [Instr.lookup, run_underlying ht, MapKept.run_getObj_map h1, run_checkKey hk (isKey x), run_findKey hk h3, Result.andThen]
theorem run_lenM {t kt et : TypeId} (h : MapAt w b k l) (ht : P.underlying t = some (.map kt et)) (ty : TypeId) : (Builtin.len_ #[t] ty #[.map (some b)]).run P w = .ok (.int .i64 l.length) w := by
  obtain ⟨es, c, h1, h2, _⟩ := h
  have h3 : es.size = l.length := by have := congrArg List.length h2; simpa using this
  simp [Builtin.len_, run_underlying ht, MapKept.run_getObj_map h1, Result.andThen, h3, goInt]
theorem run_update {t kt et : TypeId} (h : MapAt w b k l) (ht : P.underlying t = some (.map kt et)) (hk : P.underlying kt = some (.int k)) (x : Int) (v : Value) :
    ∃ w', (Instr.mapUpdate t (.map (some b)) (.int k x) v).run P w = .ok () w' ∧ MapAt w' b k (putA l x v) ∧ w.grownBy w' (some b) := by
  obtain ⟨es, c, h1, h2, hn, hst⟩ := h
  have G : ∀ o, w.grownBy (setBlock w b o) (some b) := fun o => ⟨rfl, rfl, rfl, by simp [setBlock], fun i _ hi => heap_setBlock_other h1 _ (fun e => hi (by rw [e]))⟩
  rcases find_pairs h2 x with ⟨h3, h4⟩ | ⟨j, u, h3, h4, h5⟩
  · refine ⟨setBlock w b (.map (es.push ⟨.int k x, v, c⟩) (c + 1)), ?_, ⟨_, _, heap_setBlock_same h1 _, ?_, ?_, ?_⟩, G _⟩
    · simp [Instr.mapUpdate, run_underlying ht, MapKept.run_getObj_map h1, run_checkKey hk (isKey x), run_findKey hk h3, MapKept.run_setObj_map _ h1, Result.andThen, setBlock]
    · unfold putA
      rw [if_neg h4, Array.toList_push, List.map_append, h2, List.map_append]
      rfl
    · rw [putA_keys, if_neg h4, List.nodup_append]
      refine ⟨hn, by simp, fun a ha b' hb e => ?_⟩
      rw [List.mem_singleton.1 hb] at e
      exact h4 (e ▸ ha)
    · refine stamped_push hst fun y hy e => h4 ?_
      have : (y.key, y.val) ∈ l.map (fun p => (Value.int k p.1, p.2)) := by rw [← h2]; exact List.mem_map.2 ⟨y, hy, rfl⟩
      obtain ⟨p, hp, hpe⟩ := List.mem_map.1 this
      injection hpe with h6 _
      rw [e] at h6
      injection h6 with _ h6
      rw [← h6]
      exact List.mem_map.2 ⟨p, hp, rfl⟩
  · have hm : x ∈ l.map (·.1) := mem_keys (List.mem_of_getElem? h4)
    refine ⟨setBlock w b (.map (es.modify j fun e => { e with key := .int k x, val := v }) c), ?_, ⟨_, _, heap_setBlock_same h1 _, ?_, ?_, ?_⟩, G _⟩
    · have h5' : (es[j]?).map (·.key) = some (.int k x) := by simpa using h5
      simp [Instr.mapUpdate, run_underlying ht, MapKept.run_getObj_map h1, run_checkKey hk (isKey x), run_findKey hk h3, MapKept.run_setObj_map _ h1, Result.andThen, setBlock, h5', run_keyThatStays (isKey x)]
    · unfold putA
      rw [if_pos hm]
      apply List.ext_getElem?
      intro i
      have hi : (es.toList.map (fun x => (x.key, x.val)))[i]? = (l.map (fun p => (Value.int k p.1, p.2)))[i]? := by rw [h2]
      rw [List.getElem?_map, List.getElem?_map] at hi
      rw [List.getElem?_map, List.getElem?_map, List.getElem?_map, Array.getElem?_toList, Array.getElem?_modify]
      rw [Array.getElem?_toList] at hi
      by_cases e : j = i
      · subst e
        rw [if_pos rfl, h4]
        rw [h4] at hi
        cases he : es[j]? with
        | none => rw [he] at hi; cases hi
        | some q => simp
      · rw [if_neg e, hi]
        cases hp : l[i]? with
        | none => rfl
        | some p =>
          have : p.1 ≠ x := fun e' => e (by
            have q1 : (l.map (·.1))[i]? = some x := by rw [List.getElem?_map, hp]; simp [e']
            have q2 : (l.map (·.1))[j]? = some x := by rw [List.getElem?_map, h4]; rfl
            obtain ⟨q3, q4⟩ := List.getElem?_eq_some_iff.1 q1
            obtain ⟨q5, q6⟩ := List.getElem?_eq_some_iff.1 q2
            exact (List.getElem_inj hn).1 (q6.trans q4.symm))
          simp [this]
    · rw [putA_keys, if_pos hm]; exact hn
    · refine stamped_modify hst j _ (fun _ _ => rfl) fun y _ hj => ?_
      rw [Array.getElem?_toList, hj] at h5
      injection h5 with h5
      exact h5.symm
theorem run_drop {t kt et : TypeId} (h : MapAt w b k l) (ht : P.underlying t = some (.map kt et)) (hk : P.underlying kt = some (.int k)) (x : Int) (ty : TypeId) :
    ∃ w', (Builtin.delete_ #[t, kt] ty #[.map (some b), .int k x]).run P w = .ok (.tuple #[]) w' ∧ MapAt w' b k (delA l x) ∧ w.grownBy w' (some b) := by
  obtain ⟨es, c, h1, h2, hn, hst⟩ := h
  have G : ∀ o, w.grownBy (setBlock w b o) (some b) := fun o => ⟨rfl, rfl, rfl, by simp [setBlock], fun i _ hi => heap_setBlock_other h1 _ (fun e => hi (by rw [e]))⟩
  have hnd : ((delA l x).map (·.1)).Nodup := hn.sublist ((List.filter_sublist).map _)
  rcases find_pairs h2 x with ⟨h3, h4⟩ | ⟨j, u, h3, h4, h5⟩
  · refine ⟨setBlock w b (.map es c), ?_, ⟨_, _, heap_setBlock_same h1 _, ?_, hnd, hst⟩, G _⟩
    · simp [Builtin.delete_, run_underlying ht, MapKept.run_getObj_map h1, run_checkKey hk (isKey x), run_findKey hk h3, MapKept.run_setObj_map _ h1, Result.andThen, setBlock]
    · have : delA l x = l := List.filter_eq_self.2 fun p hp => by simpa using fun e : p.1 = x => h4 (e ▸ mem_keys (v := p.2) hp)
      rw [this, h2]
  · refine ⟨setBlock w b (.map (es.eraseIdxIfInBounds j) c), ?_, ⟨_, _, heap_setBlock_same h1 _, ?_, hnd, stamped_erase hst j⟩, G _⟩
    · simp [Builtin.delete_, run_underlying ht, MapKept.run_getObj_map h1, run_checkKey hk (isKey x), run_findKey hk h3, MapKept.run_setObj_map _ h1, Result.andThen, setBlock]
    · have hj : j < es.size := by
        have := (List.getElem?_eq_some_iff.1 h4).1
        have h6 := congrArg List.length h2
        simp at h6
        omega
      have e1 : (es.eraseIdxIfInBounds j).toList = es.toList.eraseIdx j := by simp [Array.eraseIdxIfInBounds, hj]
      rw [e1, map_eraseIdx, h2, ← map_eraseIdx]
      congr 1
      have : ∀ (l : List (Int × Value)) (j : Nat), (l.map (·.1)).Nodup → l[j]? = some (x, u) → l.eraseIdx j = delA l x := by
        intro l
        induction l with
        | nil => intro j _ h; simp at h
        | cons p t ih =>
          intro j hn h
          rw [List.map_cons, List.nodup_cons] at hn
          cases j with
          | zero =>
            simp at h; subst h
            unfold delA
            rw [List.filter_cons, if_neg (by simp), List.eraseIdx_cons_zero]
            exact (List.filter_eq_self.2 fun p hp => by simpa using fun e : p.1 = x => hn.1 (e ▸ mem_keys (v := p.2) hp)).symm
          | succ j =>
            have h' : t[j]? = some (x, u) := by simpa using h
            have hx : p.1 ≠ x := fun e => hn.1 (e ▸ mem_keys (List.mem_of_getElem? h'))
            rw [List.eraseIdx_cons_succ, ih j hn.2 h']
            unfold delA
            rw [List.filter_cons, if_pos (by simpa using hx)]
      exact this l j hn h4
end

/-- A map that is not written. -/
def Sym.map (k : IntKind) (l : List (Int × Value)) : Sym := ⟨fun w F v => ∃ b, v = .map (some b) ∧ MapAt w b k l ∧ ∀ o, ¬ F (b, o), by
  rintro w w' F F' v ⟨b, e, h1, h2⟩ hk hF
  exact ⟨b, e, h1.same (hk.whole b h1.lt h2), fun o hf => h2 o (hF (b, o) h1.lt hf)⟩⟩
section
variable {U : Prop} {P : Program} {ops : Array Oper} {Q : Exit → Act → World → Prop} {N : Nat} {e : Env} {F : Cell → Prop} {a : Act} {w : World}
theorem p_lookup {d : Nat} {t : TypeId} {p : String} {af : Array Edge} {g : Option (Nat × Bool)} {c : Bool} {x x2 : Operand} {k : IntKind} {l : List (Int × Value)} {n : Int} {T kt et : TypeId} {z : Value} (ht : P.underlying T = some (.map kt et)) (hk : P.underlying kt = some (.int k)) (hz : ∀ w, (zeroValue et).run P w = .ok z w)
    (hg : GdE ops e g c) (hx : OpdE e c x (.map k l)) (hx2 : OpdE e c x2 (.int k n)) : Pays U P ops Q N e ⟨some d, .lookup T x x2 false, t, p, af, g⟩ (c, .val ((l.lookup n).getD z)) :=
  pVal hg fun e a w F hk' => by
    obtain ⟨b, h1, h2, _⟩ := hx a w F (fun s hs => hk' s (by simp [Op.operands, hs])) e
    have h3 : a.eval x2 = .int k n := hx2 a w F (fun s hs => hk' s (by simp [Op.operands, hs])) e
    refine ⟨_, ?_, rfl⟩
    have := run_look h2 ht hk (hz w) n
    simp [execOp, h1, h3, this, Result.andThen]
theorem p_lenM {d : Nat} {t : TypeId} {p : String} {af : Array Edge} {g : Option (Nat × Bool)} {c : Bool} {x : Operand} {k : IntKind} {l : List (Int × Value)} {T kt et : TypeId} (ht : P.underlying T = some (.map kt et))
    (hg : GdE ops e g c) (hx : OpdE e c x (.map k l)) : Pays U P ops Q N e ⟨some d, .call { callee := .builtin .len, args := #[x], argTypes := #[T] }, t, p, af, g⟩ (c, .int .i64 l.length) :=
  pVal hg fun e a w F hk' => by
    obtain ⟨b, h1, h2, _⟩ := hx a w F (fun s hs => hk' s (by simp [Op.operands, Call.operands, hs])) e
    refine ⟨_, ?_, rfl⟩
    have := run_lenM h2 ht t
    simp only [execOp, resolve, invoke, builtin, Sem.run_bind, Sem.run_pure, Result.andThen_ok, List.map_toArray, List.map_cons, List.map_nil, h1, this]
/-- make(map[..]..). -/
theorem make_step {rest : List Oper} {o : Oper} {d : Nat} {T : TypeId} (k : IntKind) (h : StE U N e F a w Df) (ho : o.op = .makeMap T none) (hd : o.dst = some d) (hdN : decide (d < N) = true) (hgd : o.guard = none)
    (hQ : ∀ g w', MapAt w' g k [] → w.heap.size ≤ g → Below w.heap.size w w' → StE U N ((d, true, .val (.map (some g))) :: e) (And2 F (AtB g)) (a.put (some d) (.map (some g))) w' Df → wpList P ops Q rest (a.put (some d) (.map (some g))) w') : wpList P ops Q (o :: rest) a w := by
  have hdN' : d < N := by simpa using hdN
  refine wpList_plain hgd fun K hK => ?_
  have hm := map_made w k
  have hb : Below w.heap.size w (w.alloc (.map #[] 0)) := (Below.refl _ _).alloc (Nat.le_refl _) _
  have hs := h.freshV (d := d) (v := .map (some w.heap.size)) hb (Nat.le_refl _) hm.lt (fun _ => hm.nocell) hdN'
  have hfin := hQ _ _ hm (Nat.le_refl _) hb hs
  unfold Oper.wp execOp
  simp only [ho, Sem.run_bind, Sem.run_pure]
  refine hK _ _ ?_
  rw [hd]
  exact hfin
theorem update_step {rest : List Oper} {o : Oper} {T kt et : TypeId} {k : IntKind} {l : List (Int × Value)} {b : Nat} {x1 x2 x3 : Operand} {n : Int} {v : Value} (h : StE U N e F a w Df) (hm : MapAt w b k l) (hF : ∀ o, F (b, o)) (ho : o.op = .mapUpdate T x1 x2 x3) (hd : o.dst = none) (hgd : o.guard = none)
    (h1 : a.eval x1 = .map (some b)) (h2 : a.eval x2 = .int k n) (h3 : a.eval x3 = v) (ht : P.underlying T = some (.map kt et)) (hk : P.underlying kt = some (.int k))
    (hQ : ∀ w', MapAt w' b k (putA l n v) → w.grownBy w' (some b) → StE U N e F a w' Df → wpList P ops Q rest a w') : wpList P ops Q (o :: rest) a w := by
  refine wpList_plain hgd fun K hK => ?_
  obtain ⟨w', r1, r2, r3⟩ := run_update (P := P) hm ht hk n v
  have hfin := hQ w' r2 r3 (h.wroteB r3 hF fun _ => r2.nocell)
  unfold Oper.wp
  simp [execOp, ho, h1, h2, h3, r1, Result.andThen]
  refine hK _ _ ?_
  rw [hd]
  exact hfin
end
end Go.Proofs.Ytbeeiecbbmiojaa.Y
