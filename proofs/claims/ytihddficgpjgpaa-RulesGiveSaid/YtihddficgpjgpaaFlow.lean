/- What holds of a region's values, told slot by slot: each operation pays once, whatever the order and the guards. No program in sight. -/
import Derived.Test.YtihddficgpjgpaaExt
import Derived.Test.YtihddficgpjgpaaBase
namespace Go.Proofs.Ytihddficgpjgpaa
open Go.RowKit

/-- What is known of a value: it stays true where memory is only added to. -/
structure Sym where
  on : World → Value → Prop
  mono : ∀ {w w' : World} {v : Value}, on w v → Below w.heap.size w w' → on w' v

/-- What is known of a slot's value, and where its operation ran at all. -/
def KnownV (k : Bool × Sym) (w : World) (v : Value) : Prop := (k.1 = true → k.2.on w v) ∧ (k.1 = false → v = undef)
def Known (K : Nat → Bool × Sym) (a : Act) (w : World) (s : Nat) : Prop := KnownV (K s) w (a.tmps.getD s undef)
theorem KnownV.mono {k : Bool × Sym} {w w' : World} {v : Value} (h : KnownV k w v) (hb : Below w.heap.size w w') : KnownV k w' v := ⟨fun e => k.2.mono (h.1 e) hb, h.2⟩

def slotsOf (x : Operand) : List Nat := match x with | .tmp t => [t] | _ => []
def guardSlots (ops : Array Oper) (o : Oper) : List Nat := match o.guard with | none => [] | some (g, _) => ((ops[g]?).bind (·.dst)).toList
def usesOf (ops : Array Oper) (o : Oper) : List Nat := guardSlots ops o ++ o.op.operands.toList.flatMap slotsOf
def isAlloc (o : Oper) : Bool := match o.op with | .alloc _ => true | _ => false
def dstsOf (l : List Oper) : List Nat := l.flatMap fun o => o.dst.toList

/-- Edges point back; each head operation has a slot of its own, in range, not among those known; what it uses is known, or is the slot of an operation that it follows. -/
def flowB (ops : Array Oper) (D : List Nat) (n N : Nat) : Bool :=
  decide (n ≤ ops.size) && backB ops && (n == ops.size || (Region.sinkB .any ops n && Region.chainB .any ops n && Region.seqB .any ops (ops.size - n) n (headDone n ops.size))) &&
  (List.range n).all fun i => (ops[i]?).any fun o =>
    (usesOf ops o).all (fun s => D.contains s || o.after.any fun e => Region.binds .any e && (ops[e.on]?).bind (·.dst) == some s) &&
    (o.dst).any fun d => decide (d < N) && !D.contains d && (List.range n).all fun j => j == i || (ops[j]?).bind (·.dst) != some d

section
variable {P : Program} {ops : Array Oper} {Q : Exit → Act → World → Prop} {K : Nat → Bool × Sym} {N : Nat}

/-- An operation pays. -/
def OpOK (P : Program) (ops : Array Oper) (Q : Exit → Act → World → Prop) (K : Nat → Bool × Sym) (N : Nat) (o : Oper) : Prop :=
  ∀ (a : Act) (w : World), a.tmps.size = N → (∀ s ∈ usesOf ops o, Known K a w s) → ∀ R : Act → World → Prop,
    (∀ v w', Below w.heap.size w w' → (∀ d, o.dst = some d → KnownV (K d) w' v) → (isAlloc o = true → v = .pointer (some ⟨w.heap.size, 0, none⟩) ∧ w.heap.size < w'.heap.size) → R (a.put o.dst v) w') →
    if Region.wanted o (yielded ops a.tmps) then o.wp P a w R Q else R (a.put o.dst undef) w
def AllOK (P : Program) (ops : Array Oper) (Q : Exit → Act → World → Prop) (K : Nat → Bool × Sym) (N : Nat) : List Oper → Prop
  | [] => True
  | o :: t => OpOK P ops Q K N o ∧ AllOK P ops Q K N t
theorem allOK_at : ∀ {l : List Oper}, AllOK P ops Q K N l → ∀ (i : Nat) (o : Oper), l[i]? = some o → OpOK P ops Q K N o
  | [], _, i, o, h => by simp at h
  | x :: t, hl, 0, o, h => by simp at h; subst h; exact hl.1
  | x :: t, hl, i + 1, o, h => allOK_at hl.2 i o (by simpa using h)

/-- The pointer of an operation that makes a variable. -/
def New (B : Nat) (w : World) (v : Value) : Prop := ∃ g, v = .pointer (some ⟨g, 0, none⟩) ∧ B ≤ g ∧ g < w.heap.size

structure FlowInv (ops : Array Oper) (K : Nat → Bool × Sym) (D : List Nat) (n N : Nat) (w0 : World) (listed : Array Bool) (a : Act) (w : World) : Prop where
  size : a.tmps.size = N
  defers : a.defers = []
  below : Below w0.heap.size w0 w
  env : ∀ s ∈ D, ∀ W, Below w0.heap.size w0 W → Known K a W s
  head : ∀ i o d, i < n → listed.getD i true = true → ops[i]? = some o → o.dst = some d → Known K a w d
  fresh : ∀ i o d, i < n → listed.getD i true = true → ops[i]? = some o → o.dst = some d → isAlloc o = true → New w0.heap.size w (a.tmps.getD d undef)
  apart : ∀ i o d j o' d', i < n → listed.getD i true = true → ops[i]? = some o → o.dst = some d → isAlloc o = true → j < n → listed.getD j true = true → ops[j]? = some o' → o'.dst = some d' → isAlloc o' = true → i ≠ j →
    a.tmps.getD d undef ≠ a.tmps.getD d' undef

theorem getD_put_eq {t : Array Value} {d : Nat} {v u : Value} (h : d < t.size) : (t.setIfInBounds d v).getD d u = v := by simp [h]
theorem getD_put_ne {t : Array Value} {d s : Nat} {v u : Value} (h : d ≠ s) : (t.setIfInBounds d v).getD s u = t.getD s u := by
  simp only [Array.getD_eq_getD_getElem?, Array.getElem?_setIfInBounds_ne h]

structure FlowB (ops : Array Oper) (D : List Nat) (n N : Nat) : Prop where
  le : n ≤ ops.size
  back : backB ops = true
  tail : n = ops.size ∨ (Region.sinkB .any ops n = true ∧ Region.chainB .any ops n = true ∧ Region.seqB .any ops (ops.size - n) n (headDone n ops.size) = true)
  uses : ∀ i o, i < n → ops[i]? = some o → ∀ s ∈ usesOf ops o, s ∈ D ∨ ∃ e ∈ o.after, Region.binds .any e = true ∧ ∃ oj, ops[e.on]? = some oj ∧ oj.dst = some s
  dst : ∀ i o, i < n → ops[i]? = some o → ∃ d, o.dst = some d ∧ d < N ∧ d ∉ D
  own : ∀ i o d j o', i < n → ops[i]? = some o → o.dst = some d → j < n → ops[j]? = some o' → o'.dst = some d → j = i
theorem flowB_iff {D : List Nat} {n : Nat} (h : flowB ops D n N = true) : FlowB ops D n N := by
  unfold flowB at h
  simp only [Bool.and_eq_true, decide_eq_true_eq, Bool.or_eq_true, beq_iff_eq, List.all_eq_true, List.mem_range] at h
  obtain ⟨⟨⟨h1, h2⟩, h3⟩, h4⟩ := h
  have each : ∀ i o, i < n → ops[i]? = some o → ((∀ s ∈ usesOf ops o, s ∈ D ∨ ∃ e ∈ o.after, Region.binds .any e = true ∧ ∃ oj, ops[e.on]? = some oj ∧ oj.dst = some s) ∧ ∃ d, o.dst = some d ∧ d < N ∧ d ∉ D ∧ ∀ j o', j < n → ops[j]? = some o' → o'.dst = some d → j = i) := by
    intro i o hi ho
    have h5 := h4 i hi
    rw [ho] at h5
    simp only [Option.any_some, Bool.and_eq_true, List.all_eq_true] at h5
    obtain ⟨h5, h6⟩ := h5
    refine ⟨fun s hs => ?_, ?_⟩
    · have h7 := h5 s hs
      simp only [Bool.or_eq_true, List.contains_iff_mem, Array.any_eq_true', Bool.and_eq_true, beq_iff_eq] at h7
      rcases h7 with h7 | ⟨e, he, hb, h7⟩
      · exact .inl h7
      · obtain ⟨oj, h8, h9⟩ := Option.bind_eq_some_iff.1 h7
        exact .inr ⟨e, he, hb, oj, h8, h9⟩
    · cases hd : o.dst with
      | none => rw [hd] at h6; simp at h6
      | some d =>
        rw [hd] at h6
        simp only [Option.any_some, Bool.and_eq_true, decide_eq_true_eq, Bool.not_eq_true', List.all_eq_true, List.mem_range, Bool.or_eq_true, beq_iff_eq, bne_iff_ne] at h6
        obtain ⟨⟨h6, h7⟩, h8⟩ := h6
        refine ⟨d, rfl, h6, fun hc => ?_, fun j o' hj hoj hdj => ?_⟩
        · rw [List.contains_iff_mem.2 hc] at h7; cases h7
        · rcases h8 j hj with h9 | h9
          · exact h9
          · exact absurd (by rw [hoj]; exact hdj) h9
  refine ⟨h1, h2, h3.imp id (fun h => ⟨h.1.1, h.1.2, h.2⟩), fun i o hi ho => (each i o hi ho).1, fun i o hi ho => ?_, fun i o d j o' hi ho hd hj ho' hd' => ?_⟩
  · obtain ⟨_, d, e1, e2, e3, _⟩ := each i o hi ho
    exact ⟨d, e1, e2, e3⟩
  · obtain ⟨_, d2, e1, _, _, e4⟩ := each i o hi ho
    rw [hd] at e1; cases e1
    exact e4 j o' hj ho' hd'

/-- One operation of the head runs. -/
theorem FlowInv.step {D : List Nat} {n : Nat} {w0 w w' : World} {listed : Array Bool} {a : Act} {i : Nat} {o : Oper} {v : Value} (fb : FlowB ops D n N) (inv : FlowInv ops K D n N w0 listed a w) (hi : i < n) (hun : listed.getD i true = false) (ho : ops[i]? = some o)
    (hb : Below w.heap.size w w') (hv : ∀ d, o.dst = some d → KnownV (K d) w' v) (hal : isAlloc o = true → v = .pointer (some ⟨w.heap.size, 0, none⟩) ∧ w.heap.size < w'.heap.size) :
    FlowInv ops K D n N w0 (listed.setIfInBounds i true) (a.put o.dst v) w' := by
  obtain ⟨d, hd, hdN, hdD⟩ := fb.dst i o hi ho
  have hput : (a.put o.dst v).tmps = a.tmps.setIfInBounds d v := by rw [hd]; rfl
  have hdef : (a.put o.dst v).defers = a.defers := by rw [hd]; rfl
  have hds : d < a.tmps.size := by rw [inv.size]; exact hdN
  have other : ∀ s, s ≠ d → (a.put o.dst v).tmps.getD s undef = a.tmps.getD s undef := fun s hs => by rw [hput]; exact getD_put_ne (Ne.symm hs)
  have mine : (a.put o.dst v).tmps.getD d undef = v := by rw [hput]; exact getD_put_eq hds
  have old : ∀ j oj dj, j < n → j ≠ i → ops[j]? = some oj → oj.dst = some dj → dj ≠ d := fun j oj dj hj hne hoj hdj e => by
    subst e
    exact hne (fb.own i o dj j oj hi ho hd hj hoj hdj)
  have was : ∀ j, j ≠ i → (listed.setIfInBounds i true).getD j true = true → listed.getD j true = true := fun j hj h => by rwa [getD_set_ne true (Ne.symm hj)] at h
  have h0 : Below w0.heap.size w0 w' := inv.below.trans (hb.mono inv.below.size)
  refine ⟨by rw [hput]; simp [inv.size], hdef.trans inv.defers, h0, fun s hs W hW => ?_, fun j oj dj hj hl hoj hdj => ?_, fun j oj dj hj hl hoj hdj hA => ?_, fun j oj dj j' oj' dj' hj hl hoj hdj hA hj' hl' hoj' hdj' hA' hne => ?_⟩
  · unfold Known
    rw [other s (fun e => hdD (e ▸ hs))]
    exact inv.env s hs W hW
  · unfold Known
    by_cases e : j = i
    · subst e
      obtain rfl := Option.some.inj (hoj.symm.trans ho)
      obtain rfl := Option.some.inj (hdj.symm.trans hd)
      rw [mine]
      exact hv _ hdj
    · rw [other dj (old j oj dj hj e hoj hdj)]
      exact (inv.head j oj dj hj (was j e hl) hoj hdj).mono hb
  · by_cases e : j = i
    · subst e
      obtain rfl := Option.some.inj (hoj.symm.trans ho)
      obtain rfl := Option.some.inj (hdj.symm.trans hd)
      rw [mine]
      exact ⟨w.heap.size, (hal hA).1, inv.below.size, (hal hA).2⟩
    · rw [other dj (old j oj dj hj e hoj hdj)]
      obtain ⟨g, h1, h2, h3⟩ := inv.fresh j oj dj hj (was j e hl) hoj hdj hA
      exact ⟨g, h1, h2, Nat.lt_of_lt_of_le h3 hb.size⟩
  · by_cases e : j = i
    · subst e
      obtain rfl := Option.some.inj (hoj.symm.trans ho)
      obtain rfl := Option.some.inj (hdj.symm.trans hd)
      have e' : j' ≠ j := Ne.symm hne
      rw [mine, other dj' (old j' oj' dj' hj' e' hoj' hdj')]
      obtain ⟨g, h1, h2, h3⟩ := inv.fresh j' oj' dj' hj' (was j' e' hl') hoj' hdj' hA'
      rw [h1, (hal hA).1]
      intro h; injection h with h; injection h with h; injection h with h; omega
    · by_cases e' : j' = i
      · subst e'
        obtain rfl := Option.some.inj (hoj'.symm.trans ho)
        obtain rfl := Option.some.inj (hdj'.symm.trans hd)
        rw [mine, other dj (old j oj dj hj e hoj hdj)]
        obtain ⟨g, h1, h2, h3⟩ := inv.fresh j oj dj hj (was j e hl) hoj hdj hA
        rw [h1, (hal hA').1]
        intro h; injection h with h; injection h with h; injection h with h; omega
      · rw [other dj (old j oj dj hj e hoj hdj), other dj' (old j' oj' dj' hj' e' hoj' hdj')]
        exact inv.apart j oj dj j' oj' dj' hj (was j e hl) hoj hdj hA hj' (was j' e' hl') hoj' hdj' hA' hne

theorem FlowInv.congr {D : List Nat} {n : Nat} {w0 w : World} {listed listed' : Array Bool} {a : Act} (inv : FlowInv ops K D n N w0 listed a w) (h : ∀ i, i < n → listed'.getD i true = true → listed.getD i true = true) : FlowInv ops K D n N w0 listed' a w :=
  ⟨inv.size, inv.defers, inv.below, inv.env, fun i o d hi hl => inv.head i o d hi (h i hi hl), fun i o d hi hl => inv.fresh i o d hi (h i hi hl), fun i o d j o' d' hi hl ho hd hA hj hl' => inv.apart i o d j o' d' hi (h i hi hl) ho hd hA hj (h j hj hl')⟩

/-- What holds behind the head. -/
structure Flowed (ops : Array Oper) (K : Nat → Bool × Sym) (D : List Nat) (n N : Nat) (w0 : World) (a : Act) (w : World) : Prop where
  size : a.tmps.size = N
  defers : a.defers = []
  below : Below w0.heap.size w0 w
  env : ∀ s ∈ D, ∀ W, Below w0.heap.size w0 W → Known K a W s
  head : ∀ i o d, i < n → ops[i]? = some o → o.dst = some d → Known K a w d
  fresh : ∀ i o d, i < n → ops[i]? = some o → o.dst = some d → isAlloc o = true → New w0.heap.size w (a.tmps.getD d undef)
  apart : ∀ i o d j o' d', i < n → ops[i]? = some o → o.dst = some d → isAlloc o = true → j < n → ops[j]? = some o' → o'.dst = some d' → isAlloc o' = true → i ≠ j → a.tmps.getD d undef ≠ a.tmps.getD d' undef
theorem FlowInv.all {D : List Nat} {n : Nat} {w0 w : World} {listed : Array Bool} {a : Act} (inv : FlowInv ops K D n N w0 listed a w) (h : ∀ i, i < n → listed.getD i true = true) : Flowed ops K D n N w0 a w :=
  ⟨inv.size, inv.defers, inv.below, inv.env, fun i o d hi => inv.head i o d hi (h i hi), fun i o d hi => inv.fresh i o d hi (h i hi), fun i o d j o' d' hi ho hd hA hj => inv.apart i o d j o' d' hi (h i hi) ho hd hA hj (h j hj)⟩

theorem wpAny_flow {l : List Oper} {n : Nat} {D : List Nat} {w0 : World} (hl : ops = l.toArray) (fb : FlowB ops D n N) (hops : ∀ i o, i < n → ops[i]? = some o → OpOK P ops Q K N o)
    (hQ : ∀ a w, Flowed ops K D n N w0 a w → wpList P ops Q (l.drop n) a w) :
    ∀ (k : Nat) (listed : Array Bool) (a : Act) (w : World), todo n listed ≤ k → HeadInv .any ops n listed → FlowInv ops K D n N w0 listed a w → wpAny P .any ops Q (k + (ops.size - n)) listed a w := by
  have hn := fb.le
  intro k
  induction k with
  | zero =>
    intro listed a w hk inv hI
    have hall := todo_zero (Nat.le_zero.1 hk)
    have he := headInv_done hn inv hall
    have hF := hQ a w (hI.all hall)
    subst he
    have hlen : (l.drop n).length = ops.size - n := by rw [List.length_drop, hl]; rfl
    rcases fb.tail with e | ⟨_, _, hseq⟩
    · have hz : ops.size - n = 0 := by omega
      rw [hz]
      have hd : l.drop n = [] := List.eq_nil_of_length_eq_zero (by omega)
      rw [hd] at hF
      refine ⟨?_, hF⟩
      unfold Region.ready
      rw [List.filter_eq_nil_iff]
      intro i hi
      have := hall i (by rw [List.mem_range] at hi; omega)
      simp only [this]
      simp
    · rw [Nat.zero_add, ← hlen]
      exact wpAny_of_seq (l.drop n) n _ _ _ (fun j => by rw [hl]; simp) (by rw [hlen]; exact hseq) hF
  | succ k ih =>
    intro listed a w hk inv hI
    by_cases h0 : todo n listed ≤ k
    · exact wpAny_le (by omega) (ih listed a w h0 inv hI)
    · have hex : ∃ i, i < n ∧ listed.getD i true = false := by
        have hp : 0 < todo n listed := by omega
        obtain ⟨i, hi⟩ := List.exists_mem_of_length_pos hp
        obtain ⟨h1, h2⟩ := List.mem_filter.1 hi
        exact ⟨i, List.mem_range.1 h1, by simpa using h2⟩
      rw [show k + 1 + (ops.size - n) = (k + (ops.size - n)) + 1 by omega]
      obtain ⟨i0, hi0, hun0⟩ := hex
      refine ⟨fun hnil => ?_, fun i hi => ?_⟩
      · exfalso
        have least : ∀ d i, i ≤ d → i < n → listed.getD i true = false → ∃ j, j < n ∧ listed.getD j true = false ∧ ∀ t, t < j → listed.getD t true = true := by
          intro d
          induction d with
          | zero =>
            intro i hid hin hun
            obtain rfl : i = 0 := by omega
            exact ⟨0, hin, hun, fun t ht => absurd ht (by omega)⟩
          | succ d ihd =>
            intro i hid hin hun
            by_cases hh : ∃ t, t < i ∧ listed.getD t true = false
            · obtain ⟨t, ht, hut⟩ := hh
              exact ihd t (by omega) (by omega) hut
            · refine ⟨i, hin, hun, fun t ht => ?_⟩
              cases hg : listed.getD t true with
              | true => rfl
              | false => exact absurd ⟨t, ht, hg⟩ hh
        obtain ⟨j, hjn, hju, hjl⟩ := least i0 i0 (Nat.le_refl _) hi0 hun0
        have hjs : j < ops.size := by omega
        have hj : j ∈ Region.ready .any ops listed := by
          refine mem_ready.2 ⟨hju, ops[j], Array.getElem?_eq_getElem hjs, fun e he _ => ?_⟩
          have hb := List.all_eq_true.1 fb.back j (List.mem_range.2 hjs)
          simp only [Array.getElem?_eq_getElem hjs, Option.all_some] at hb
          have he' := Array.all_eq_true'.1 hb e he
          have hlt : e.on < j := by simpa using he'
          have h1 := hjl e.on hlt
          have hsz := inv.size
          have hes : e.on < listed.size := by omega
          simp [hes] at h1 ⊢
          exact h1
        rw [hnil] at hj
        cases hj
      · have hin : i < n := by
          rcases Nat.lt_or_ge i n with h | h
          · exact h
          · rcases fb.tail with e | ⟨hs, hc, _⟩
            · obtain ⟨_, o, ho, _⟩ := mem_ready.1 hi
              have : i < ops.size := (Array.getElem?_eq_some_iff.1 ho).1
              omega
            · have hlt : n < ops.size := by
                obtain ⟨_, o, ho, _⟩ := mem_ready.1 hi
                have : i < ops.size := (Array.getElem?_eq_some_iff.1 ho).1
                omega
              exact absurd hi (tail_waits hs hc hlt inv _ i0 rfl hi0 hun0 i h)
        obtain ⟨hun, o, ho, hall⟩ := mem_ready.1 hi
        have H := hops i o hin ho a w hI.size (fun s hs => ?_) (wpAny P .any ops Q (k + (ops.size - n)) (listed.setIfInBounds i true)) (fun v w' hb hv hal =>
          ih _ _ _ (by have := todo_set hin hun; omega) (inv.set hi hin) (hI.step fb hin hun ho hb hv hal))
        · unfold wpOp
          rw [ho]
          show if _ then _ else _
          split
          · rename_i hw; rw [if_pos hw] at H; exact .inl H
          · rename_i hw; rw [if_neg hw] at H; exact H
        · rcases fb.uses i o hin ho s hs with h | ⟨e, he, hbn, oj, hoj, hdj⟩
          · exact hI.env s h w hI.below
          · have h1 := hall e he hbn
            have hs' : i < ops.size := (Array.getElem?_eq_some_iff.1 ho).1
            have hb := List.all_eq_true.1 fb.back i (List.mem_range.2 hs')
            simp only [ho, Option.all_some] at hb
            have he' := Array.all_eq_true'.1 hb e he
            have hlt : e.on < i := by simpa using he'
            refine hI.head e.on oj s (by omega) ?_ hoj hdj
            have hsz := inv.size
            have hes : e.on < listed.size := by omega
            simp [hes] at h1 ⊢
            exact h1

/-- The same in the text's order. -/
theorem wpList_flow {l : List Oper} {n : Nat} {D : List Nat} {w0 : World} (hl : ops = l.toArray) (fb : FlowB ops D n N) (hops : ∀ i o, i < n → ops[i]? = some o → OpOK P ops Q K N o)
    (hQ : ∀ a w, Flowed ops K D n N w0 a w → wpList P ops Q (l.drop n) a w) :
    ∀ (k i : Nat) (a : Act) (w : World), i + k = n → FlowInv ops K D n N w0 (headDone i ops.size) a w → wpList P ops Q (l.drop i) a w := by
  have hn := fb.le
  have hd : ∀ i j, i ≤ ops.size → ((headDone i ops.size).getD j true = true ↔ (j < i ∨ ops.size ≤ j)) := fun i j hi => by
    unfold headDone
    by_cases h : j < i
    · simp [h, show j < i + (ops.size - i) by omega]
    · by_cases h' : j < ops.size
      · simp [Array.getElem_append, h, show j < i + (ops.size - i) by omega]; omega
      · simp [show ¬ j < i + (ops.size - i) by omega]; omega
  intro k
  induction k with
  | zero =>
    intro i a w hik hI
    obtain rfl : i = n := by omega
    exact hQ a w (hI.all (fun j hj => (hd i j hn).2 (.inl hj)))
  | succ k ih =>
    intro i a w hik hI
    have hin : i < n := by omega
    have hil : i < l.length := by rw [hl] at hn; simp at hn; omega
    have ho : ops[i]? = some l[i] := by rw [hl]; simp [hil]
    rw [List.drop_eq_getElem_cons hil]
    have H := hops i l[i] hin ho a w hI.size (fun s hs => ?_) (wpList P ops Q (l.drop (i + 1))) (fun v w' hb hv hal => ?_)
    · show if _ then _ else _
      split
      · rename_i hw; rw [if_pos hw] at H; exact .inl H
      · rename_i hw; rw [if_neg hw] at H; exact H
    · rcases fb.uses i l[i] hin ho s hs with h | ⟨e, he, hbn, oj, hoj, hdj⟩
      · exact hI.env s h w hI.below
      · have hs' : i < ops.size := (Array.getElem?_eq_some_iff.1 ho).1
        have hb := List.all_eq_true.1 fb.back i (List.mem_range.2 hs')
        simp only [ho, Option.all_some] at hb
        have he' := Array.all_eq_true'.1 hb e he
        have hlt : e.on < i := by simpa using he'
        exact hI.head e.on oj s (by omega) ((hd i e.on (by omega)).2 (.inl hlt)) hoj hdj
    · refine ih (i + 1) _ _ (by omega) ?_
      have hun : (headDone i ops.size).getD i true = false := by
        cases h : (headDone i ops.size).getD i true with
        | false => rfl
        | true => rcases (hd i i (by omega)).1 h with h | h <;> omega
      have S := hI.step fb hin hun ho hb hv hal
      refine S.congr (fun j hj h => ?_)
      by_cases e : j = i
      · subst e
        have hz : j < (headDone j ops.size).size := by unfold headDone; simp; omega
        simp [hz]
      · rw [getD_set_ne true (Ne.symm e)]
        rcases (hd (i + 1) j (by omega)).1 h with h | h
        · exact (hd i j (by omega)).2 (.inl (by omega))
        · omega

/-- A region: what holds of its values, told slot by slot. -/
theorem wp_flow {id : Nat} {l : List Oper} {b : Bool} (n : Nat) (D : List Nat) (K : Nat → Bool × Sym) (N : Nat) {a : Act} {w : World}
    (hm : P.follows .mixedOrders = true) (hB : flowB l.toArray D n N = true) (ha : a.tmps.size = N) (hd : a.defers = []) (hK : ∀ s ∈ D, Known K a w s)
    (hops : AllOK P l.toArray Q K N (l.take n))
    (hQ : ∀ a' w', Flowed l.toArray K D n N w a' w' → wpList P l.toArray Q (l.drop n) a' w') :
    (Code.region id l.toArray b).wp P Q a w := by
  have fb := flowB_iff hB
  have hops' : ∀ i o, i < n → l.toArray[i]? = some o → OpOK P l.toArray Q K N o := fun i o hi ho => allOK_at hops i o (by
    rw [List.getElem?_take, if_pos hi]; simpa using ho)
  have hK' : ∀ s ∈ D, ∀ W, Below w.heap.size w W → Known K a W s := fun s hs W hW => (hK s hs).mono hW
  cases b with
  | true =>
    refine wp_region_any hm ?_
    have hun : ∀ i, i < n → (Array.replicate l.toArray.size false).getD i true = false := fun i hi => getD_in (by have := fb.le; simp at this ⊢; omega) (getD_replicate_false _ _)
    have inv0 : HeadInv .any l.toArray n (Array.replicate l.toArray.size false) :=
      ⟨by simp, fun j oj _ hl => (by rw [getD_replicate_false] at hl; cases hl), fun t _ ht => getD_in (by simpa using ht) (getD_replicate_false _ _)⟩
    have H := wpAny_flow (P := P) (Q := Q) (K := K) (N := N) (w0 := w) rfl fb hops' hQ n (Array.replicate l.toArray.size false) a w.drew
      (by unfold todo; exact Nat.le_trans (List.length_filter_le _ _) (by simp)) inv0
      ⟨ha, hd, (Below.refl _ _).drew, hK', (fun i o d hi h => by rw [hun i hi] at h; cases h), (fun i o d hi h => by rw [hun i hi] at h; cases h), (fun i o d j o' d' hi h => by rw [hun i hi] at h; cases h)⟩
    refine wpAny_le ?_ H
    have := fb.le
    omega
  | false =>
    refine wp_region_lit ?_
    have h0 : ∀ i, i < n → (headDone 0 l.toArray.size).getD i true = false := fun i hi => by
      have := fb.le
      simp at this
      unfold headDone
      simp only [List.size_toArray, Array.replicate_zero, Array.empty_append, Nat.sub_zero]
      exact getD_in (by simp; omega) (getD_replicate_false _ _)
    have H := wpList_flow (P := P) (Q := Q) (K := K) (N := N) (w0 := w) rfl fb hops' hQ n 0 a w (by omega)
      ⟨ha, hd, Below.refl _ _, hK', (fun i o d hi h => by rw [h0 i hi] at h; cases h), (fun i o d hi h => by rw [h0 i hi] at h; cases h), (fun i o d j o' d' hi h => by rw [h0 i hi] at h; cases h)⟩
    simpa using H
end
end Go.Proofs.Ytihddficgpjgpaa
