/- MFlow: Ext, Flow, Fsym, Fcon, Fops, Fslice, one behind the other. -/
import Derived.StillTail
import Derived.Below
import Derived.Deep.Draws
import Derived.Test.YtihddficgpjgpaaBase
import Derived.Test.YtihddficgpjgpaaMTop
import Derived.Deep.MidRow
import Derived.Great.BuildSlice
import Derived.Laws.CopyOwn
import Derived.Test.YtihddficgpjgpaaMLeq
import Derived.Test.YtihddficgpjgpaaHead
import Derived.Test.YtihddficgpjgpaaMRef

/- A region that draws its order, by what holds of each operation's value: one obligation an operation, not one an order. The first n operations only add to memory; the others come in their own order. No program in sight. -/
namespace Go.Proofs.Ytihddficgpjgpaa
open Go.RowKit

section
variable {P : Program} {ops : Array Oper} {Q : Exit → Act → World → Prop}

theorem wpAny_more : ∀ (f : Nat) (listed : Array Bool) (a : Act) (w : World), wpAny P .any ops Q f listed a w → wpAny P .any ops Q (f + 1) listed a w
  | 0, listed, a, w, h => ⟨fun _ => h.2, fun i hi => by rw [h.1] at hi; cases hi⟩
  | f + 1, listed, a, w, h => ⟨h.1, fun i hi => wpOp_mono (fun a' w' h' => wpAny_more f _ a' w' h') (h.2 i hi)⟩
theorem wpAny_le {f g : Nat} (hfg : f ≤ g) {listed : Array Bool} {a : Act} {w : World} (h : wpAny P .any ops Q f listed a w) : wpAny P .any ops Q g listed a w := by
  induction hfg with
  | refl => exact h
  | step _ ih => exact wpAny_more _ _ _ _ ih

/-- Each edge points back. -/
def backB (ops : Array Oper) : Bool := (List.range ops.size).all fun i => (ops[i]?).all fun o => o.after.all fun e => decide (e.on < i)
/-- How many of the first n are not yet listed. -/
def todo (n : Nat) (listed : Array Bool) : Nat := ((List.range n).filter fun i => !listed.getD i true).length
theorem todo_set {n i : Nat} {listed : Array Bool} (hi : i < n) (hun : listed.getD i true = false) : todo n (listed.setIfInBounds i true) < todo n listed := by
  have hsz : i < listed.size := by
    rcases Nat.lt_or_ge i listed.size with h | h
    · exact h
    · simp [Array.getElem?_eq_none h] at hun
  unfold todo
  have hsub : ((List.range n).filter fun j => !(listed.setIfInBounds i true).getD j true) = ((List.range n).filter fun j => !listed.getD j true).filter fun j => decide (j ≠ i) := by
    rw [List.filter_filter]
    congr 1
    funext j
    by_cases e : j = i
    · subst e
      simp [hsz]
    · rw [getD_set_ne true (Ne.symm e)]
      simp [e]
  rw [hsub]
  refine List.length_filter_lt_length_iff_exists.2 ⟨i, List.mem_filter.2 ⟨List.mem_range.2 hi, by rw [hun]; rfl⟩, by simp⟩
theorem todo_zero {n : Nat} {listed : Array Bool} (h : todo n listed = 0) : ∀ i, i < n → listed.getD i true = true := fun i hi => by
  have h0 := List.eq_nil_of_length_eq_zero h
  cases hg : listed.getD i true with
  | true => rfl
  | false =>
    have : i ∈ ((List.range n).filter fun i => !listed.getD i true) := List.mem_filter.2 ⟨List.mem_range.2 hi, by rw [hg]; rfl⟩
    rw [h0] at this
    cases this

def upd (vals : Nat → Value) (i : Nat) (v : Value) : Nat → Value := fun j => if j = i then v else vals j
/-- The first n are done, the others are not. -/
def headDone (n m : Nat) : Array Bool := Array.replicate n true ++ Array.replicate (m - n) false
def extB (ops : Array Oper) (n : Nat) : Bool :=
  decide (n < ops.size) && backB ops && Region.sinkB .any ops n && Region.chainB .any ops n && Region.seqB .any ops (ops.size - n) n (headDone n ops.size)

theorem headInv_done {n : Nat} {listed : Array Bool} (hn : n ≤ ops.size) (inv : HeadInv .any ops n listed) (h : ∀ i, i < n → listed.getD i true = true) : listed = headDone n ops.size := by
  have hsz := inv.size
  apply Array.ext
  · simp [headDone, hsz]; omega
  · intro i h1 h2
    have hin : i < ops.size := by omega
    by_cases hi : i < n
    · have := h i hi
      simp [h1] at this
      simp [headDone, this, hi]
    · have := inv.tail i (by omega) hin
      simp [h1] at this
      rw [this]
      simp [headDone, Array.getElem_append, hi]

section
variable {fr : (Nat → Value) → Array Value} {G : Nat → Value → World → Prop} {isAl : Nat → Bool} {E : World → Prop} {X : World → World → Prop}
/-- What holds of the state when some are listed. -/
def ExtInv (fr : (Nat → Value) → Array Value) (G : Nat → Value → World → Prop) (isAl : Nat → Bool) (E : World → Prop) (n : Nat) (listed : Array Bool) (a : Act) (w : World) : Prop :=
  ∃ vals : Nat → Value, a = ⟨fr vals, []⟩ ∧ E w ∧ (∀ i, i < n → listed.getD i true = true → G i (vals i) w) ∧
    (∀ i j, i < n → j < n → i ≠ j → isAl i = true → isAl j = true → listed.getD i true = true → listed.getD j true = true → vals i ≠ vals j)

theorem wpAny_ext {l : List Oper} {n : Nat} (hl : ops = l.toArray) (hn : n < ops.size) (hback : backB ops = true) (hs : Region.sinkB .any ops n = true) (hc : Region.chainB .any ops n = true) (hseq : Region.seqB .any ops (ops.size - n) n (headDone n ops.size) = true)
    (hmono : ∀ i v w w', E w → X w w' → G i v w → G i v w') (hEX : ∀ w w', E w → X w w' → E w')
    (hops : ∀ i, i < n → ∀ o, ops[i]? = some o → ∀ vals w, E w → (∀ e ∈ o.after, Region.binds .any e = true → G e.on (vals e.on) w) →
      wpOp P ops Q i (fun a' w' => ∃ v, a' = ⟨fr (upd vals i v), []⟩ ∧ X w w' ∧ G i v w' ∧ (isAl i = true → ∀ j u, isAl j = true → G j u w → u ≠ v)) ⟨fr vals, []⟩ w)
    (hQ : ∀ vals w, E w → (∀ i, i < n → G i (vals i) w) → (∀ i j, i < n → j < n → i ≠ j → isAl i = true → isAl j = true → vals i ≠ vals j) → wpList P ops Q (l.drop n) ⟨fr vals, []⟩ w) :
    ∀ (k : Nat) (listed : Array Bool) (a : Act) (w : World), todo n listed ≤ k → HeadInv .any ops n listed → ExtInv fr G isAl E n listed a w → wpAny P .any ops Q (k + (ops.size - n)) listed a w := by
  intro k
  induction k with
  | zero =>
    intro listed a w hk inv hI
    obtain ⟨vals, rfl, hE, hG, hA⟩ := hI
    have hall := todo_zero (Nat.le_zero.1 hk)
    have he := headInv_done (Nat.le_of_lt hn) inv hall
    subst he
    have hlen : (l.drop n).length = ops.size - n := by rw [List.length_drop, hl]; rfl
    rw [Nat.zero_add, ← hlen]
    exact wpAny_of_seq (l.drop n) n _ _ _ (fun j => by rw [hl]; simp) (by rw [hlen]; exact hseq)
      (hQ vals w hE (fun i hi => hG i hi (hall i hi)) (fun i j hi hj hij h1 h2 => hA i j hi hj hij h1 h2 (hall i hi) (hall j hj)))
  | succ k ih =>
    intro listed a w hk inv hI
    by_cases h0 : todo n listed ≤ k
    · exact wpAny_le (by omega) (ih listed a w h0 inv hI)
    · obtain ⟨vals, rfl, hE, hG, hA⟩ := hI
      -- some of the first n is to do
      have hex : ∃ i, i < n ∧ listed.getD i true = false := by
        have hp : 0 < todo n listed := by omega
        obtain ⟨i, hi⟩ := List.exists_mem_of_length_pos hp
        obtain ⟨h1, h2⟩ := List.mem_filter.1 hi
        exact ⟨i, List.mem_range.1 h1, by simpa using h2⟩
      rw [show k + 1 + (ops.size - n) = (k + (ops.size - n)) + 1 by omega]
      obtain ⟨i0, hi0, hun0⟩ := hex
      refine ⟨fun hnil => ?_, fun i hi => ?_⟩
      · -- the least of them is ready
        exfalso
        have least : ∀ d i, i ≤ d → i < n → listed.getD i true = false → ∃ j, j < n ∧ listed.getD j true = false ∧ ∀ t, t < j → listed.getD t true = true := by
          intro d
          induction d with
          | zero =>
            intro i hid hin hun
            obtain rfl : i = 0 := by omega
            exact ⟨0, hin, hun, fun t ht => absurd ht (by omega)⟩
          | succ d ihd =>
            intro i hid hin hun
            by_cases hh : ∃ t, t < i ∧ listed.getD t true = false
            · obtain ⟨t, ht, hut⟩ := hh
              exact ihd t (by omega) (by omega) hut
            · refine ⟨i, hin, hun, fun t ht => ?_⟩
              cases hg : listed.getD t true with
              | true => rfl
              | false => exact absurd ⟨t, ht, hg⟩ hh
        obtain ⟨j, hjn, hju, hjl⟩ := least i0 i0 (Nat.le_refl _) hi0 hun0
        have hjs : j < ops.size := by omega
        have hj : j ∈ Region.ready .any ops listed := by
          refine mem_ready.2 ⟨hju, ops[j], Array.getElem?_eq_getElem hjs, fun e he _ => ?_⟩
          have hb := List.all_eq_true.1 hback j (List.mem_range.2 hjs)
          simp only [Array.getElem?_eq_getElem hjs, Option.all_some] at hb
          have he' := Array.all_eq_true'.1 hb e he
          have hlt : e.on < j := by simpa using he'
          have h1 := hjl e.on hlt
          have hsz := inv.size
          have hes : e.on < listed.size := by omega
          simp [hes] at h1 ⊢
          exact h1
        rw [hnil] at hj
        cases hj
      · have hin : i < n := by
          rcases Nat.lt_or_ge i n with h | h
          · exact h
          · exact absurd hi (tail_waits hs hc hn inv _ i0 rfl hi0 hun0 i h)
        obtain ⟨hun, o, ho, hall⟩ := mem_ready.1 hi
        refine wpOp_mono (fun a' w' hh => ?_) (hops i hin o ho vals w hE (fun e he hbn => ?_))
        · obtain ⟨v, rfl, hX, hGi, hAl⟩ := hh
          refine ih _ _ _ (by have := todo_set hin hun; omega) (inv.set hi hin) ⟨upd vals i v, rfl, hEX _ _ hE hX, fun j hj hlj => ?_, fun j j' hj hj' hne h1 h2 hl1 hl2 => ?_⟩
          · unfold upd
            by_cases e : j = i
            · subst e; rw [if_pos rfl]; exact hGi
            · rw [if_neg e]
              rw [getD_set_ne true (Ne.symm e)] at hlj
              exact hmono _ _ _ _ hE hX (hG j hj hlj)
          · unfold upd
            by_cases e : j = i
            · subst e
              have e' : j' ≠ j := Ne.symm hne
              rw [if_pos rfl, if_neg e']
              rw [getD_set_ne true (Ne.symm e')] at hl2
              exact fun hh => hAl h1 j' (vals j') h2 (hG j' hj' hl2) hh.symm
            · rw [if_neg e]
              rw [getD_set_ne true (Ne.symm e)] at hl1
              by_cases e' : j' = i
              · subst e'
                rw [if_pos rfl]
                exact hAl h2 j (vals j) h1 (hG j hj hl1)
              · rw [if_neg e']
                rw [getD_set_ne true (Ne.symm e')] at hl2
                exact hA j j' hj hj' hne h1 h2 hl1 hl2
        · have h1 := hall e he hbn
          have hs' : i < ops.size := (Array.getElem?_eq_some_iff.1 ho).1
          have hb := List.all_eq_true.1 hback i (List.mem_range.2 hs')
          simp only [ho, Option.all_some] at hb
          have he' := Array.all_eq_true'.1 hb e he
          have hlt : e.on < i := by simpa using he'
          refine hG e.on (by omega) ?_
          have hsz := inv.size
          have hes : e.on < listed.size := by omega
          simp [hes] at h1 ⊢
          exact h1

/-- A region that draws its order: what holds of each operation's value, whatever the order. -/
theorem wp_region_ext {id : Nat} {l : List Oper} (n : Nat) (fr : (Nat → Value) → Array Value) (G : Nat → Value → World → Prop) (isAl : Nat → Bool) (E : World → Prop) (X : World → World → Prop) {a : Act} {w : World}
    (hm : P.follows .mixedOrders = true) (hB : extB l.toArray n = true) (ha : ∃ vals, a = ⟨fr vals, []⟩) (hE : E w.drew)
    (hmono : ∀ i v w w', E w → X w w' → G i v w → G i v w') (hEX : ∀ w w', E w → X w w' → E w')
    (hops : ∀ i, i < n → ∀ o, l.toArray[i]? = some o → ∀ vals w, E w → (∀ e ∈ o.after, Region.binds .any e = true → G e.on (vals e.on) w) →
      wpOp P l.toArray Q i (fun a' w' => ∃ v, a' = ⟨fr (upd vals i v), []⟩ ∧ X w w' ∧ G i v w' ∧ (isAl i = true → ∀ j u, isAl j = true → G j u w → u ≠ v)) ⟨fr vals, []⟩ w)
    (hQ : ∀ vals w, E w → (∀ i, i < n → G i (vals i) w) → (∀ i j, i < n → j < n → i ≠ j → isAl i = true → isAl j = true → vals i ≠ vals j) → wpList P l.toArray Q (l.drop n) ⟨fr vals, []⟩ w) :
    (Code.region id l.toArray true).wp P Q a w := by
  simp only [extB, Bool.and_eq_true, decide_eq_true_eq] at hB
  obtain ⟨⟨⟨⟨hn, hback⟩, hs⟩, hc⟩, hseq⟩ := hB
  obtain ⟨vals, rfl⟩ := ha
  refine wp_region_any hm ?_
  have inv0 : HeadInv .any l.toArray n (Array.replicate l.toArray.size false) :=
    ⟨by simp, fun j oj _ hl => (by rw [getD_replicate_false] at hl; cases hl), fun t _ ht => getD_in (by simpa using ht) (getD_replicate_false _ _)⟩
  have hun : ∀ i, i < n → (Array.replicate l.toArray.size false).getD i true = false := fun i hi => getD_in (by simp at hn ⊢; omega) (getD_replicate_false _ _)
  have H := wpAny_ext (P := P) (Q := Q) (fr := fr) (G := G) (isAl := isAl) (E := E) (X := X) rfl hn hback hs hc hseq hmono hEX hops hQ n (Array.replicate l.toArray.size false) ⟨fr vals, []⟩ w.drew
    (by unfold todo; exact Nat.le_trans (List.length_filter_le _ _) (by simp)) inv0
    ⟨vals, rfl, hE, (fun i hi h => by rw [hun i hi] at h; cases h), (fun i j hi _ _ _ _ h => by rw [hun i hi] at h; cases h)⟩
  refine wpAny_le ?_ H
  omega
end
end
end Go.Proofs.Ytihddficgpjgpaa

/- What holds of a region's values, told slot by slot: each operation pays once, whatever the order and the guards. No program in sight. -/
namespace Go.Proofs.Ytihddficgpjgpaa
open Go.RowKit

/-- What is known of a value: it stays true where memory is only added to. -/
structure Sym where
  on : World → Value → Prop
  mono : ∀ {w w' : World} {v : Value}, on w v → Below w.heap.size w w' → on w' v

/-- What is known of a slot's value, and where its operation ran at all. -/
def KnownV (k : Bool × Sym) (w : World) (v : Value) : Prop := (k.1 = true → k.2.on w v) ∧ (k.1 = false → v = undef)
def Known (K : Nat → Bool × Sym) (a : Act) (w : World) (s : Nat) : Prop := KnownV (K s) w (a.tmps.getD s undef)
theorem KnownV.mono {k : Bool × Sym} {w w' : World} {v : Value} (h : KnownV k w v) (hb : Below w.heap.size w w') : KnownV k w' v := ⟨fun e => k.2.mono (h.1 e) hb, h.2⟩

def slotsOf (x : Operand) : List Nat := match x with | .tmp t => [t] | _ => []
def guardSlots (ops : Array Oper) (o : Oper) : List Nat := match o.guard with | none => [] | some (g, _) => ((ops[g]?).bind (·.dst)).toList
def usesOf (ops : Array Oper) (o : Oper) : List Nat := guardSlots ops o ++ o.op.operands.toList.flatMap slotsOf
def isAlloc (o : Oper) : Bool := match o.op with | .alloc _ => true | _ => false
def dstsOf (l : List Oper) : List Nat := l.flatMap fun o => o.dst.toList

/-- Edges point back; each head operation has a slot of its own, in range, not among those known; what it uses is known, or is the slot of an operation that it follows. -/
def flowB (ops : Array Oper) (D : List Nat) (n N : Nat) : Bool :=
  decide (n ≤ ops.size) && backB ops && (n == ops.size || (Region.sinkB .any ops n && Region.chainB .any ops n && Region.seqB .any ops (ops.size - n) n (headDone n ops.size))) &&
  (List.range n).all fun i => (ops[i]?).any fun o =>
    (usesOf ops o).all (fun s => D.contains s || o.after.any fun e => Region.binds .any e && (ops[e.on]?).bind (·.dst) == some s) &&
    (o.dst).any fun d => decide (d < N) && !D.contains d && (List.range n).all fun j => j == i || (ops[j]?).bind (·.dst) != some d

section
variable {P : Program} {ops : Array Oper} {Q : Exit → Act → World → Prop} {K : Nat → Bool × Sym} {N : Nat}

/-- An operation pays. -/
def OpOK (P : Program) (ops : Array Oper) (Q : Exit → Act → World → Prop) (K : Nat → Bool × Sym) (N : Nat) (o : Oper) : Prop :=
  ∀ (a : Act) (w : World), a.tmps.size = N → (∀ s ∈ usesOf ops o, Known K a w s) → ∀ R : Act → World → Prop,
    (∀ v w', Below w.heap.size w w' → (∀ d, o.dst = some d → KnownV (K d) w' v) → (isAlloc o = true → v = .pointer (some ⟨w.heap.size, 0, none⟩) ∧ w.heap.size < w'.heap.size) → R (a.put o.dst v) w') →
    if Region.wanted o (yielded ops a.tmps) then o.wp P a w R Q else R (a.put o.dst undef) w
def AllOK (P : Program) (ops : Array Oper) (Q : Exit → Act → World → Prop) (K : Nat → Bool × Sym) (N : Nat) : List Oper → Prop
  | [] => True
  | o :: t => OpOK P ops Q K N o ∧ AllOK P ops Q K N t
theorem allOK_at : ∀ {l : List Oper}, AllOK P ops Q K N l → ∀ (i : Nat) (o : Oper), l[i]? = some o → OpOK P ops Q K N o
  | [], _, i, o, h => by simp at h
  | x :: t, hl, 0, o, h => by simp at h; subst h; exact hl.1
  | x :: t, hl, i + 1, o, h => allOK_at hl.2 i o (by simpa using h)

/-- The pointer of an operation that makes a variable. -/
def New (B : Nat) (w : World) (v : Value) : Prop := ∃ g, v = .pointer (some ⟨g, 0, none⟩) ∧ B ≤ g ∧ g < w.heap.size

structure FlowInv (ops : Array Oper) (K : Nat → Bool × Sym) (D : List Nat) (n N : Nat) (w0 : World) (listed : Array Bool) (a : Act) (w : World) : Prop where
  size : a.tmps.size = N
  defers : a.defers = []
  below : Below w0.heap.size w0 w
  env : ∀ s ∈ D, ∀ W, Below w0.heap.size w0 W → Known K a W s
  head : ∀ i o d, i < n → listed.getD i true = true → ops[i]? = some o → o.dst = some d → Known K a w d
  fresh : ∀ i o d, i < n → listed.getD i true = true → ops[i]? = some o → o.dst = some d → isAlloc o = true → New w0.heap.size w (a.tmps.getD d undef)
  apart : ∀ i o d j o' d', i < n → listed.getD i true = true → ops[i]? = some o → o.dst = some d → isAlloc o = true → j < n → listed.getD j true = true → ops[j]? = some o' → o'.dst = some d' → isAlloc o' = true → i ≠ j →
    a.tmps.getD d undef ≠ a.tmps.getD d' undef

theorem getD_put_eq {t : Array Value} {d : Nat} {v u : Value} (h : d < t.size) : (t.setIfInBounds d v).getD d u = v := by simp [h]
theorem getD_put_ne {t : Array Value} {d s : Nat} {v u : Value} (h : d ≠ s) : (t.setIfInBounds d v).getD s u = t.getD s u := by
  simp only [Array.getD_eq_getD_getElem?, Array.getElem?_setIfInBounds_ne h]

structure FlowB (ops : Array Oper) (D : List Nat) (n N : Nat) : Prop where
  le : n ≤ ops.size
  back : backB ops = true
  tail : n = ops.size ∨ (Region.sinkB .any ops n = true ∧ Region.chainB .any ops n = true ∧ Region.seqB .any ops (ops.size - n) n (headDone n ops.size) = true)
  uses : ∀ i o, i < n → ops[i]? = some o → ∀ s ∈ usesOf ops o, s ∈ D ∨ ∃ e ∈ o.after, Region.binds .any e = true ∧ ∃ oj, ops[e.on]? = some oj ∧ oj.dst = some s
  dst : ∀ i o, i < n → ops[i]? = some o → ∃ d, o.dst = some d ∧ d < N ∧ d ∉ D
  own : ∀ i o d j o', i < n → ops[i]? = some o → o.dst = some d → j < n → ops[j]? = some o' → o'.dst = some d → j = i
theorem flowB_iff {D : List Nat} {n : Nat} (h : flowB ops D n N = true) : FlowB ops D n N := by
  unfold flowB at h
  simp only [Bool.and_eq_true, decide_eq_true_eq, Bool.or_eq_true, beq_iff_eq, List.all_eq_true, List.mem_range] at h
  obtain ⟨⟨⟨h1, h2⟩, h3⟩, h4⟩ := h
  have each : ∀ i o, i < n → ops[i]? = some o → ((∀ s ∈ usesOf ops o, s ∈ D ∨ ∃ e ∈ o.after, Region.binds .any e = true ∧ ∃ oj, ops[e.on]? = some oj ∧ oj.dst = some s) ∧ ∃ d, o.dst = some d ∧ d < N ∧ d ∉ D ∧ ∀ j o', j < n → ops[j]? = some o' → o'.dst = some d → j = i) := by
    intro i o hi ho
    have h5 := h4 i hi
    rw [ho] at h5
    simp only [Option.any_some, Bool.and_eq_true, List.all_eq_true] at h5
    obtain ⟨h5, h6⟩ := h5
    refine ⟨fun s hs => ?_, ?_⟩
    · have h7 := h5 s hs
      simp only [Bool.or_eq_true, List.contains_iff_mem, Array.any_eq_true', Bool.and_eq_true, beq_iff_eq] at h7
      rcases h7 with h7 | ⟨e, he, hb, h7⟩
      · exact .inl h7
      · obtain ⟨oj, h8, h9⟩ := Option.bind_eq_some_iff.1 h7
        exact .inr ⟨e, he, hb, oj, h8, h9⟩
    · cases hd : o.dst with
      | none => rw [hd] at h6; simp at h6
      | some d =>
        rw [hd] at h6
        simp only [Option.any_some, Bool.and_eq_true, decide_eq_true_eq, Bool.not_eq_true', List.all_eq_true, List.mem_range, Bool.or_eq_true, beq_iff_eq, bne_iff_ne] at h6
        obtain ⟨⟨h6, h7⟩, h8⟩ := h6
        refine ⟨d, rfl, h6, fun hc => ?_, fun j o' hj hoj hdj => ?_⟩
        · rw [List.contains_iff_mem.2 hc] at h7; cases h7
        · rcases h8 j hj with h9 | h9
          · exact h9
          · exact absurd (by rw [hoj]; exact hdj) h9
  refine ⟨h1, h2, h3.imp id (fun h => ⟨h.1.1, h.1.2, h.2⟩), fun i o hi ho => (each i o hi ho).1, fun i o hi ho => ?_, fun i o d j o' hi ho hd hj ho' hd' => ?_⟩
  · obtain ⟨_, d, e1, e2, e3, _⟩ := each i o hi ho
    exact ⟨d, e1, e2, e3⟩
  · obtain ⟨_, d2, e1, _, _, e4⟩ := each i o hi ho
    rw [hd] at e1; cases e1
    exact e4 j o' hj ho' hd'

/-- One operation of the head runs. -/
theorem FlowInv.step {D : List Nat} {n : Nat} {w0 w w' : World} {listed : Array Bool} {a : Act} {i : Nat} {o : Oper} {v : Value} (fb : FlowB ops D n N) (inv : FlowInv ops K D n N w0 listed a w) (hi : i < n) (hun : listed.getD i true = false) (ho : ops[i]? = some o)
    (hb : Below w.heap.size w w') (hv : ∀ d, o.dst = some d → KnownV (K d) w' v) (hal : isAlloc o = true → v = .pointer (some ⟨w.heap.size, 0, none⟩) ∧ w.heap.size < w'.heap.size) :
    FlowInv ops K D n N w0 (listed.setIfInBounds i true) (a.put o.dst v) w' := by
  obtain ⟨d, hd, hdN, hdD⟩ := fb.dst i o hi ho
  have hput : (a.put o.dst v).tmps = a.tmps.setIfInBounds d v := by rw [hd]; rfl
  have hdef : (a.put o.dst v).defers = a.defers := by rw [hd]; rfl
  have hds : d < a.tmps.size := by rw [inv.size]; exact hdN
  have other : ∀ s, s ≠ d → (a.put o.dst v).tmps.getD s undef = a.tmps.getD s undef := fun s hs => by rw [hput]; exact getD_put_ne (Ne.symm hs)
  have mine : (a.put o.dst v).tmps.getD d undef = v := by rw [hput]; exact getD_put_eq hds
  have old : ∀ j oj dj, j < n → j ≠ i → ops[j]? = some oj → oj.dst = some dj → dj ≠ d := fun j oj dj hj hne hoj hdj e => by
    subst e
    exact hne (fb.own i o dj j oj hi ho hd hj hoj hdj)
  have was : ∀ j, j ≠ i → (listed.setIfInBounds i true).getD j true = true → listed.getD j true = true := fun j hj h => by rwa [getD_set_ne true (Ne.symm hj)] at h
  have h0 : Below w0.heap.size w0 w' := inv.below.trans (hb.mono inv.below.size)
  refine ⟨by rw [hput]; simp [inv.size], hdef.trans inv.defers, h0, fun s hs W hW => ?_, fun j oj dj hj hl hoj hdj => ?_, fun j oj dj hj hl hoj hdj hA => ?_, fun j oj dj j' oj' dj' hj hl hoj hdj hA hj' hl' hoj' hdj' hA' hne => ?_⟩
  · unfold Known
    rw [other s (fun e => hdD (e ▸ hs))]
    exact inv.env s hs W hW
  · unfold Known
    by_cases e : j = i
    · subst e
      obtain rfl := Option.some.inj (hoj.symm.trans ho)
      obtain rfl := Option.some.inj (hdj.symm.trans hd)
      rw [mine]
      exact hv _ hdj
    · rw [other dj (old j oj dj hj e hoj hdj)]
      exact (inv.head j oj dj hj (was j e hl) hoj hdj).mono hb
  · by_cases e : j = i
    · subst e
      obtain rfl := Option.some.inj (hoj.symm.trans ho)
      obtain rfl := Option.some.inj (hdj.symm.trans hd)
      rw [mine]
      exact ⟨w.heap.size, (hal hA).1, inv.below.size, (hal hA).2⟩
    · rw [other dj (old j oj dj hj e hoj hdj)]
      obtain ⟨g, h1, h2, h3⟩ := inv.fresh j oj dj hj (was j e hl) hoj hdj hA
      exact ⟨g, h1, h2, Nat.lt_of_lt_of_le h3 hb.size⟩
  · by_cases e : j = i
    · subst e
      obtain rfl := Option.some.inj (hoj.symm.trans ho)
      obtain rfl := Option.some.inj (hdj.symm.trans hd)
      have e' : j' ≠ j := Ne.symm hne
      rw [mine, other dj' (old j' oj' dj' hj' e' hoj' hdj')]
      obtain ⟨g, h1, h2, h3⟩ := inv.fresh j' oj' dj' hj' (was j' e' hl') hoj' hdj' hA'
      rw [h1, (hal hA).1]
      intro h; injection h with h; injection h with h; injection h with h; omega
    · by_cases e' : j' = i
      · subst e'
        obtain rfl := Option.some.inj (hoj'.symm.trans ho)
        obtain rfl := Option.some.inj (hdj'.symm.trans hd)
        rw [mine, other dj (old j oj dj hj e hoj hdj)]
        obtain ⟨g, h1, h2, h3⟩ := inv.fresh j oj dj hj (was j e hl) hoj hdj hA
        rw [h1, (hal hA').1]
        intro h; injection h with h; injection h with h; injection h with h; omega
      · rw [other dj (old j oj dj hj e hoj hdj), other dj' (old j' oj' dj' hj' e' hoj' hdj')]
        exact inv.apart j oj dj j' oj' dj' hj (was j e hl) hoj hdj hA hj' (was j' e' hl') hoj' hdj' hA' hne

theorem FlowInv.congr {D : List Nat} {n : Nat} {w0 w : World} {listed listed' : Array Bool} {a : Act} (inv : FlowInv ops K D n N w0 listed a w) (h : ∀ i, i < n → listed'.getD i true = true → listed.getD i true = true) : FlowInv ops K D n N w0 listed' a w :=
  ⟨inv.size, inv.defers, inv.below, inv.env, fun i o d hi hl => inv.head i o d hi (h i hi hl), fun i o d hi hl => inv.fresh i o d hi (h i hi hl), fun i o d j o' d' hi hl ho hd hA hj hl' => inv.apart i o d j o' d' hi (h i hi hl) ho hd hA hj (h j hj hl')⟩

/-- What holds behind the head. -/
structure Flowed (ops : Array Oper) (K : Nat → Bool × Sym) (D : List Nat) (n N : Nat) (w0 : World) (a : Act) (w : World) : Prop where
  size : a.tmps.size = N
  defers : a.defers = []
  below : Below w0.heap.size w0 w
  env : ∀ s ∈ D, ∀ W, Below w0.heap.size w0 W → Known K a W s
  head : ∀ i o d, i < n → ops[i]? = some o → o.dst = some d → Known K a w d
  fresh : ∀ i o d, i < n → ops[i]? = some o → o.dst = some d → isAlloc o = true → New w0.heap.size w (a.tmps.getD d undef)
  apart : ∀ i o d j o' d', i < n → ops[i]? = some o → o.dst = some d → isAlloc o = true → j < n → ops[j]? = some o' → o'.dst = some d' → isAlloc o' = true → i ≠ j → a.tmps.getD d undef ≠ a.tmps.getD d' undef
theorem FlowInv.all {D : List Nat} {n : Nat} {w0 w : World} {listed : Array Bool} {a : Act} (inv : FlowInv ops K D n N w0 listed a w) (h : ∀ i, i < n → listed.getD i true = true) : Flowed ops K D n N w0 a w :=
  ⟨inv.size, inv.defers, inv.below, inv.env, fun i o d hi => inv.head i o d hi (h i hi), fun i o d hi => inv.fresh i o d hi (h i hi), fun i o d j o' d' hi ho hd hA hj => inv.apart i o d j o' d' hi (h i hi) ho hd hA hj (h j hj)⟩

theorem wpAny_flow {l : List Oper} {n : Nat} {D : List Nat} {w0 : World} (hl : ops = l.toArray) (fb : FlowB ops D n N) (hops : ∀ i o, i < n → ops[i]? = some o → OpOK P ops Q K N o)
    (hQ : ∀ a w, Flowed ops K D n N w0 a w → wpList P ops Q (l.drop n) a w) :
    ∀ (k : Nat) (listed : Array Bool) (a : Act) (w : World), todo n listed ≤ k → HeadInv .any ops n listed → FlowInv ops K D n N w0 listed a w → wpAny P .any ops Q (k + (ops.size - n)) listed a w := by
  have hn := fb.le
  intro k
  induction k with
  | zero =>
    intro listed a w hk inv hI
    have hall := todo_zero (Nat.le_zero.1 hk)
    have he := headInv_done hn inv hall
    have hF := hQ a w (hI.all hall)
    subst he
    have hlen : (l.drop n).length = ops.size - n := by rw [List.length_drop, hl]; rfl
    rcases fb.tail with e | ⟨_, _, hseq⟩
    · have hz : ops.size - n = 0 := by omega
      rw [hz]
      have hd : l.drop n = [] := List.eq_nil_of_length_eq_zero (by omega)
      rw [hd] at hF
      refine ⟨?_, hF⟩
      unfold Region.ready
      rw [List.filter_eq_nil_iff]
      intro i hi
      have := hall i (by rw [List.mem_range] at hi; omega)
      simp only [this]
      simp
    · rw [Nat.zero_add, ← hlen]
      exact wpAny_of_seq (l.drop n) n _ _ _ (fun j => by rw [hl]; simp) (by rw [hlen]; exact hseq) hF
  | succ k ih =>
    intro listed a w hk inv hI
    by_cases h0 : todo n listed ≤ k
    · exact wpAny_le (by omega) (ih listed a w h0 inv hI)
    · have hex : ∃ i, i < n ∧ listed.getD i true = false := by
        have hp : 0 < todo n listed := by omega
        obtain ⟨i, hi⟩ := List.exists_mem_of_length_pos hp
        obtain ⟨h1, h2⟩ := List.mem_filter.1 hi
        exact ⟨i, List.mem_range.1 h1, by simpa using h2⟩
      rw [show k + 1 + (ops.size - n) = (k + (ops.size - n)) + 1 by omega]
      obtain ⟨i0, hi0, hun0⟩ := hex
      refine ⟨fun hnil => ?_, fun i hi => ?_⟩
      · exfalso
        have least : ∀ d i, i ≤ d → i < n → listed.getD i true = false → ∃ j, j < n ∧ listed.getD j true = false ∧ ∀ t, t < j → listed.getD t true = true := by
          intro d
          induction d with
          | zero =>
            intro i hid hin hun
            obtain rfl : i = 0 := by omega
            exact ⟨0, hin, hun, fun t ht => absurd ht (by omega)⟩
          | succ d ihd =>
            intro i hid hin hun
            by_cases hh : ∃ t, t < i ∧ listed.getD t true = false
            · obtain ⟨t, ht, hut⟩ := hh
              exact ihd t (by omega) (by omega) hut
            · refine ⟨i, hin, hun, fun t ht => ?_⟩
              cases hg : listed.getD t true with
              | true => rfl
              | false => exact absurd ⟨t, ht, hg⟩ hh
        obtain ⟨j, hjn, hju, hjl⟩ := least i0 i0 (Nat.le_refl _) hi0 hun0
        have hjs : j < ops.size := by omega
        have hj : j ∈ Region.ready .any ops listed := by
          refine mem_ready.2 ⟨hju, ops[j], Array.getElem?_eq_getElem hjs, fun e he _ => ?_⟩
          have hb := List.all_eq_true.1 fb.back j (List.mem_range.2 hjs)
          simp only [Array.getElem?_eq_getElem hjs, Option.all_some] at hb
          have he' := Array.all_eq_true'.1 hb e he
          have hlt : e.on < j := by simpa using he'
          have h1 := hjl e.on hlt
          have hsz := inv.size
          have hes : e.on < listed.size := by omega
          simp [hes] at h1 ⊢
          exact h1
        rw [hnil] at hj
        cases hj
      · have hin : i < n := by
          rcases Nat.lt_or_ge i n with h | h
          · exact h
          · rcases fb.tail with e | ⟨hs, hc, _⟩
            · obtain ⟨_, o, ho, _⟩ := mem_ready.1 hi
              have : i < ops.size := (Array.getElem?_eq_some_iff.1 ho).1
              omega
            · have hlt : n < ops.size := by
                obtain ⟨_, o, ho, _⟩ := mem_ready.1 hi
                have : i < ops.size := (Array.getElem?_eq_some_iff.1 ho).1
                omega
              exact absurd hi (tail_waits hs hc hlt inv _ i0 rfl hi0 hun0 i h)
        obtain ⟨hun, o, ho, hall⟩ := mem_ready.1 hi
        have H := hops i o hin ho a w hI.size (fun s hs => ?_) (wpAny P .any ops Q (k + (ops.size - n)) (listed.setIfInBounds i true)) (fun v w' hb hv hal =>
          ih _ _ _ (by have := todo_set hin hun; omega) (inv.set hi hin) (hI.step fb hin hun ho hb hv hal))
        · unfold wpOp
          rw [ho]
          show if _ then _ else _
          split
          · rename_i hw; rw [if_pos hw] at H; exact .inl H
          · rename_i hw; rw [if_neg hw] at H; exact H
        · rcases fb.uses i o hin ho s hs with h | ⟨e, he, hbn, oj, hoj, hdj⟩
          · exact hI.env s h w hI.below
          · have h1 := hall e he hbn
            have hs' : i < ops.size := (Array.getElem?_eq_some_iff.1 ho).1
            have hb := List.all_eq_true.1 fb.back i (List.mem_range.2 hs')
            simp only [ho, Option.all_some] at hb
            have he' := Array.all_eq_true'.1 hb e he
            have hlt : e.on < i := by simpa using he'
            refine hI.head e.on oj s (by omega) ?_ hoj hdj
            have hsz := inv.size
            have hes : e.on < listed.size := by omega
            simp [hes] at h1 ⊢
            exact h1

/-- The same in the text's order. -/
theorem wpList_flow {l : List Oper} {n : Nat} {D : List Nat} {w0 : World} (hl : ops = l.toArray) (fb : FlowB ops D n N) (hops : ∀ i o, i < n → ops[i]? = some o → OpOK P ops Q K N o)
    (hQ : ∀ a w, Flowed ops K D n N w0 a w → wpList P ops Q (l.drop n) a w) :
    ∀ (k i : Nat) (a : Act) (w : World), i + k = n → FlowInv ops K D n N w0 (headDone i ops.size) a w → wpList P ops Q (l.drop i) a w := by
  have hn := fb.le
  have hd : ∀ i j, i ≤ ops.size → ((headDone i ops.size).getD j true = true ↔ (j < i ∨ ops.size ≤ j)) := fun i j hi => by
    unfold headDone
    by_cases h : j < i
    · simp [h, show j < i + (ops.size - i) by omega]
    · by_cases h' : j < ops.size
      · simp [Array.getElem_append, h, show j < i + (ops.size - i) by omega]; omega
      · simp [show ¬ j < i + (ops.size - i) by omega]; omega
  intro k
  induction k with
  | zero =>
    intro i a w hik hI
    obtain rfl : i = n := by omega
    exact hQ a w (hI.all (fun j hj => (hd i j hn).2 (.inl hj)))
  | succ k ih =>
    intro i a w hik hI
    have hin : i < n := by omega
    have hil : i < l.length := by rw [hl] at hn; simp at hn; omega
    have ho : ops[i]? = some l[i] := by rw [hl]; simp [hil]
    rw [List.drop_eq_getElem_cons hil]
    have H := hops i l[i] hin ho a w hI.size (fun s hs => ?_) (wpList P ops Q (l.drop (i + 1))) (fun v w' hb hv hal => ?_)
    · show if _ then _ else _
      split
      · rename_i hw; rw [if_pos hw] at H; exact .inl H
      · rename_i hw; rw [if_neg hw] at H; exact H
    · rcases fb.uses i l[i] hin ho s hs with h | ⟨e, he, hbn, oj, hoj, hdj⟩
      · exact hI.env s h w hI.below
      · have hs' : i < ops.size := (Array.getElem?_eq_some_iff.1 ho).1
        have hb := List.all_eq_true.1 fb.back i (List.mem_range.2 hs')
        simp only [ho, Option.all_some] at hb
        have he' := Array.all_eq_true'.1 hb e he
        have hlt : e.on < i := by simpa using he'
        exact hI.head e.on oj s (by omega) ((hd i e.on (by omega)).2 (.inl hlt)) hoj hdj
    · refine ih (i + 1) _ _ (by omega) ?_
      have hun : (headDone i ops.size).getD i true = false := by
        cases h : (headDone i ops.size).getD i true with
        | false => rfl
        | true => rcases (hd i i (by omega)).1 h with h | h <;> omega
      have S := hI.step fb hin hun ho hb hv hal
      refine S.congr (fun j hj h => ?_)
      by_cases e : j = i
      · subst e
        have hz : j < (headDone j ops.size).size := by unfold headDone; simp; omega
        simp [hz]
      · rw [getD_set_ne true (Ne.symm e)]
        rcases (hd (i + 1) j (by omega)).1 h with h | h
        · exact (hd i j (by omega)).2 (.inl (by omega))
        · omega

/-- A region: what holds of its values, told slot by slot. -/
theorem wp_flow {id : Nat} {l : List Oper} {b : Bool} (n : Nat) (D : List Nat) (K : Nat → Bool × Sym) (N : Nat) {a : Act} {w : World}
    (hm : P.follows .mixedOrders = true) (hB : flowB l.toArray D n N = true) (ha : a.tmps.size = N) (hd : a.defers = []) (hK : ∀ s ∈ D, Known K a w s)
    (hops : AllOK P l.toArray Q K N (l.take n))
    (hQ : ∀ a' w', Flowed l.toArray K D n N w a' w' → wpList P l.toArray Q (l.drop n) a' w') :
    (Code.region id l.toArray b).wp P Q a w := by
  have fb := flowB_iff hB
  have hops' : ∀ i o, i < n → l.toArray[i]? = some o → OpOK P l.toArray Q K N o := fun i o hi ho => allOK_at hops i o (by
    rw [List.getElem?_take, if_pos hi]; simpa using ho)
  have hK' : ∀ s ∈ D, ∀ W, Below w.heap.size w W → Known K a W s := fun s hs W hW => (hK s hs).mono hW
  cases b with
  | true =>
    refine wp_region_any hm ?_
    have hun : ∀ i, i < n → (Array.replicate l.toArray.size false).getD i true = false := fun i hi => getD_in (by have := fb.le; simp at this ⊢; omega) (getD_replicate_false _ _)
    have inv0 : HeadInv .any l.toArray n (Array.replicate l.toArray.size false) :=
      ⟨by simp, fun j oj _ hl => (by rw [getD_replicate_false] at hl; cases hl), fun t _ ht => getD_in (by simpa using ht) (getD_replicate_false _ _)⟩
    have H := wpAny_flow (P := P) (Q := Q) (K := K) (N := N) (w0 := w) rfl fb hops' hQ n (Array.replicate l.toArray.size false) a w.drew
      (by unfold todo; exact Nat.le_trans (List.length_filter_le _ _) (by simp)) inv0
      ⟨ha, hd, (Below.refl _ _).drew, hK', (fun i o d hi h => by rw [hun i hi] at h; cases h), (fun i o d hi h => by rw [hun i hi] at h; cases h), (fun i o d j o' d' hi h => by rw [hun i hi] at h; cases h)⟩
    refine wpAny_le ?_ H
    have := fb.le
    omega
  | false =>
    refine wp_region_lit ?_
    have h0 : ∀ i, i < n → (headDone 0 l.toArray.size).getD i true = false := fun i hi => by
      have := fb.le
      simp at this
      unfold headDone
      simp only [List.size_toArray, Array.replicate_zero, Array.empty_append, Nat.sub_zero]
      exact getD_in (by simp; omega) (getD_replicate_false _ _)
    have H := wpList_flow (P := P) (Q := Q) (K := K) (N := N) (w0 := w) rfl fb hops' hQ n 0 a w (by omega)
      ⟨ha, hd, Below.refl _ _, hK', (fun i o d hi h => by rw [h0 i hi] at h; cases h), (fun i o d hi h => by rw [h0 i hi] at h; cases h), (fun i o d j o' d' hi h => by rw [h0 i hi] at h; cases h)⟩
    simpa using H
end
end Go.Proofs.Ytihddficgpjgpaa

/- What is known of values of this program: labels, seeds, variables that hold them; what each kind of operation yields. -/
namespace Go.Proofs.Ytihddficgpjgpaa
open Go.RowKit

/-- Cells that hold labels, one behind the other. -/
def LabsAt (w : World) (B : Nat) : List Value → List Lab → Prop
  | cs, [] => cs = []
  | cs, l :: ls => ∃ (A : Option Addr) (c : Nat) (rest : List Value), cs = .int .i64 l.d :: .slice A l.ps.length c :: rest ∧ PairsAt w B A l.ps ∧ l.ps.length ≤ c ∧ LabsAt w B rest ls
theorem LabsAt.keep {w w' : World} {B B' : Nat} (hk : ∀ A l, PairsAt w B A l → PairsAt w' B' A l) : ∀ {ls : List Lab} {cs : List Value}, LabsAt w B cs ls → LabsAt w' B' cs ls
  | [], _, h => h
  | _ :: _, _, ⟨A, c, rest, h1, h2, h3, h4⟩ => ⟨A, c, rest, h1, hk _ _ h2, h3, LabsAt.keep hk h4⟩
theorem LabsAt.length {w : World} {B : Nat} : ∀ {ls : List Lab} {cs : List Value}, LabsAt w B cs ls → cs.length = 2 * ls.length
  | [], _, h => by simp [LabsAt] at h; simp [h]
  | _ :: _, _, ⟨A, c, rest, h1, h2, h3, h4⟩ => by rw [h1]; simp [h4.length]; omega
theorem LabsAt.one {w : World} {B : Nat} : ∀ {ls : List Lab} {cs : List Value}, LabsAt w B cs ls → ∀ u ∈ cs, u.oneCell' = true
  | [], _, h, u, hu => by simp [LabsAt] at h; simp [h] at hu
  | _ :: _, _, ⟨A, c, rest, h1, h2, h3, h4⟩, u, hu => by
    subst h1
    simp at hu
    rcases hu with rfl | rfl | hu
    · rfl
    · rfl
    · exact h4.one u hu
theorem LabsAt.drop {w : World} {B : Nat} : ∀ {ls : List Lab} {cs : List Value} (k : Nat), LabsAt w B cs ls → LabsAt w B (cs.drop (2 * k)) (ls.drop k)
  | ls, cs, 0, h => h
  | [], cs, k + 1, h => by simp [LabsAt] at h; subst h; simp [LabsAt]
  | _ :: _, _, k + 1, ⟨A, c, rest, h1, h2, h3, h4⟩ => by
    subst h1
    have := h4.drop k
    simpa [show 2 * (k + 1) = 2 * k + 1 + 1 by omega] using this
theorem LabsAt.take {w : World} {B : Nat} : ∀ {ls : List Lab} {cs : List Value} (k : Nat), LabsAt w B cs ls → LabsAt w B (cs.take (2 * k)) (ls.take k)
  | ls, cs, 0, h => by simp [LabsAt]
  | [], cs, k + 1, h => by simp [LabsAt] at h; subst h; simp [LabsAt]
  | _ :: _, _, k + 1, ⟨A, c, rest, h1, h2, h3, h4⟩ => by
    subst h1
    have := h4.take k
    refine ⟨A, c, rest.take (2 * k), ?_, h2, h3, this⟩
    simp [show 2 * (k + 1) = 2 * k + 1 + 1 by omega]
theorem LabsAt.app {w : World} {B : Nat} : ∀ {ls ls' : List Lab} {cs cs' : List Value}, LabsAt w B cs ls → LabsAt w B cs' ls' → LabsAt w B (cs ++ cs') (ls ++ ls')
  | [], _, _, _, h, h' => by simp [LabsAt] at h; subst h; exact h'
  | _ :: _, _, _, _, ⟨A, c, rest, h1, h2, h3, h4⟩, h' => by
    subst h1
    exact ⟨A, c, _, by simp, h2, h3, h4.app h'⟩
def LabsV (w : World) (B : Nat) (v : Value) (ls : List Lab) : Prop := ∃ cs : List Value, v = .agg cs.toArray ∧ LabsAt w B cs ls
theorem labsV_one {w : World} {B : Nat} {v : Value} {l : Lab} : LabsV w B v [l] ↔ LabV w B v l := by
  constructor
  · rintro ⟨cs, rfl, A, c, rest, rfl, h2, h3, h4⟩
    obtain rfl : rest = [] := h4
    exact ⟨A, c, rfl, h2, h3⟩
  · rintro ⟨A, c, rfl, h2, h3⟩
    exact ⟨[.int .i64 l.d, .slice A l.ps.length c], rfl, A, c, [], rfl, h2, h3, rfl⟩
theorem LabsV.below {w w' : World} {v : Value} {ls : List Lab} (h : LabsV w w.heap.size v ls) (hb : Below w.heap.size w w') : LabsV w' w'.heap.size v ls := by
  obtain ⟨cs, h1, h2⟩ := h
  exact ⟨cs, h1, h2.keep fun _ _ p => (p.below hb).more hb.size⟩

def Sym.any : Sym := ⟨fun _ _ => True, fun h _ => h⟩
def Sym.val (x : Value) : Sym := ⟨fun _ v => v = x, fun h _ => h⟩
def Sym.bool (b : Bool) : Sym := .val (.bool b)
def Sym.int (n : Int) : Sym := .val (.int .i64 n)
def Sym.u32 (n : Int) : Sym := .val (.int .u32 n)
def Sym.labs (ls : List Lab) : Sym := ⟨fun w v => LabsV w w.heap.size v ls, fun h hb => h.below hb⟩
def Sym.lab (l : Lab) : Sym := .labs [l]
def Sym.seed (l : Lab) : Sym := ⟨fun w v => SeedV w w.heap.size v l, fun h hb => (h.below hb (Nat.le_refl _)).more hb.size⟩
/-- The place of the k-th label of a variable. -/
def Sym.var (t : TypeId) (ls : List Lab) (k : Nat) : Sym := ⟨fun w v => ∃ g cs, v = .pointer (some ⟨g, 2 * k, none⟩) ∧ Blk w g t cs ∧ LabsAt w w.heap.size cs.toList ls, by
  rintro w w' v ⟨g, cs, h1, h2, h3⟩ hb
  exact ⟨g, cs, h1, h2.below hb h2.lt, h3.keep fun _ _ p => (p.below hb).more hb.size⟩⟩
def Sym.box (l : Lab) : Sym := .var 39 [l] 0
/-- The place of a seed. -/
def Sym.sbox (l : Lab) : Sym := ⟨fun w v => ∃ g o c0 c1, v = .pointer (some ⟨g, o, none⟩) ∧ g < w.heap.size ∧ w.cell? ⟨g, o, none⟩ = some c0 ∧ w.cell? ⟨g, o + 1, none⟩ = some c1 ∧ SeedV w w.heap.size (.agg #[c0, c1]) l, by
  rintro w w' v ⟨g, o, c0, c1, h1, h2, h3, h4, h5⟩ hb
  exact ⟨g, o, c0, c1, h1, Nat.lt_of_lt_of_le h2 hb.size, (hb.cell (p := ⟨g, o, none⟩) h2).trans h3, (hb.cell (p := ⟨g, o + 1, none⟩) h2).trans h4, (h5.below hb (Nat.le_refl _)).more hb.size⟩⟩
/-- A new variable that holds labels of no pairs. -/
def Sym.fresh (t : TypeId) (n : Nat) : Sym := ⟨fun w v => ∃ g cs, v = .pointer (some ⟨g, 0, none⟩) ∧ Blk w g t cs ∧ cs.size = 2 * n ∧ ∀ (i : Nat) (u : Value), cs[i]? = some u → ∀ x : Int, u ≠ Value.int .u32 x, by
  rintro w w' v ⟨g, cs, h1, h2, h3⟩ hb
  exact ⟨g, cs, h1, h2.below hb h2.lt, h3⟩⟩

section
variable {ops : Array Oper} {Q : Exit → Act → World → Prop} {K : Nat → Bool × Sym} {N : Nat}

/-- What is known of an operand where the operation runs. -/
def Opd (K : Nat → Bool × Sym) (c : Bool) (x : Operand) (y : Sym) : Prop := ∀ a w, (∀ s ∈ slotsOf x, Known K a w s) → c = true → y.on w (a.eval x)
theorem opd {s : Nat} {cs c : Bool} {y : Sym} (h : K s = (cs, y)) (hc : c = true → cs = true) : Opd K c (.tmp s) y := fun a w hk e => by
  have := (hk s (by simp [slotsOf])).1
  rw [h] at this
  exact this (hc e)
theorem opc {c : Bool} (v : Value) : Opd K c (.const v) (.val v) := fun _ _ _ _ => rfl

/-- Where an operation runs. -/
def Gd (ops : Array Oper) (K : Nat → Bool × Sym) (g : Option (Nat × Bool)) (c : Bool) : Prop :=
  ∀ a w o, o.guard = g → (∀ s ∈ guardSlots ops o, Known K a w s) → Region.wanted o (yielded ops a.tmps) = c
theorem gd0 : Gd ops K none true := fun a w o hg _ => by simp [Region.wanted, hg]
theorem gd {g sg : Nat} {b cg x : Bool} (hs : (ops[g]?).bind (·.dst) = some sg) (hK : K sg = (cg, .bool x)) : Gd ops K (some (g, b)) (cg && (x == b)) := fun a w o hg hk => by
  have hk := hk sg (by simp [guardSlots, hg, hs])
  unfold Known KnownV at hk
  rw [hK] at hk
  have hy : ∀ u, a.tmps.getD sg undef = .bool u → yielded ops a.tmps g = some u := fun u hu => by
    unfold yielded
    rw [hs]
    rw [Array.getD_eq_getD_getElem?] at hu
    cases hq : a.tmps[sg]? with
    | none => rw [hq] at hu; cases hu
    | some q => rw [hq] at hu; simp at hu; subst hu; simp [hq]
  have hn : a.tmps.getD sg undef = undef → yielded ops a.tmps g = none := fun hu => by
    unfold yielded
    rw [hs]
    rw [Array.getD_eq_getD_getElem?] at hu
    cases hq : a.tmps[sg]? with
    | none => simp [hq]
    | some q => rw [hq] at hu; simp at hu; subst hu; simp [hq, undef]
  simp only [Region.wanted, hg]
  cases cg with
  | true => rw [hy x (hk.1 rfl)]; cases x <;> cases b <;> rfl
  | false => rw [hn (hk.2 rfl)]; rfl

/-- An operation pays, if it does where it runs. -/
theorem okOf {d : Nat} {op : Op} {t : TypeId} {p : String} {af : Array Edge} {g : Option (Nat × Bool)} {c : Bool} {y : Sym} (hK : K d = (c, y)) (hg : Gd ops K g c) (hA : isAlloc ⟨some d, op, t, p, af, g⟩ = false)
    (h : c = true → ∀ a w, (∀ s ∈ op.operands.toList.flatMap slotsOf, Known K a w s) → ∀ R : Act → World → Prop, (∀ v w', Below w.heap.size w w' → y.on w' v → R (a.put (some d) v) w') → (⟨some d, op, t, p, af, g⟩ : Oper).wp Try.prog a w R Q) :
    OpOK Try.prog ops Q K N ⟨some d, op, t, p, af, g⟩ := fun a w _ hk R hR => by
  have hk1 := fun s hs => hk s (List.mem_append_left _ hs)
  have hk2 := fun s hs => hk s (List.mem_append_right _ hs)
  rw [hg a w _ rfl hk1]
  cases c with
  | true =>
    rw [if_pos rfl]
    refine h rfl a w hk2 R (fun v w' hb hv => hR v w' hb (fun d' hd => ?_) (fun e => (by rw [hA] at e; cases e)))
    cases hd
    rw [hK]
    exact ⟨fun _ => hv, (fun e => by cases e)⟩
  | false =>
    rw [if_neg (by simp)]
    refine hR undef w (Below.refl _ _) (fun d' hd => ?_) (fun e => by rw [hA] at e; cases e)
    cases hd
    rw [hK]
    exact ⟨(fun e => by cases e), fun _ => rfl⟩
/-- An operation that yields a value and leaves memory. -/
theorem okVal {d : Nat} {op : Op} {t : TypeId} {p : String} {af : Array Edge} {g : Option (Nat × Bool)} {c : Bool} {y : Sym} (hK : K d = (c, y)) (hg : Gd ops K g c) (hA : isAlloc ⟨some d, op, t, p, af, g⟩ = false)
    (h : c = true → ∀ a w, (∀ s ∈ op.operands.toList.flatMap slotsOf, Known K a w s) → ∃ v, (execOp a.eval ⟨some d, op, t, p, af, g⟩).run Try.prog w = .ok (.value v) w ∧ y.on w v) :
    OpOK Try.prog ops Q K N ⟨some d, op, t, p, af, g⟩ :=
  okOf hK hg hA fun e a w hk R hR => by
    obtain ⟨v, h1, h2⟩ := h e a w hk
    unfold Oper.wp
    rw [h1]
    exact hR v w (Below.refl _ _) h2

section
variable {d : Nat} {t : TypeId} {p : String} {af : Array Edge} {g : Option (Nat × Bool)} {c : Bool} {y : Sym} {x x2 : Operand} {l : Lab}
theorem ok_move (hK : K d = (c, y)) (hg : Gd ops K g c) (hx : Opd K c x y) : OpOK Try.prog ops Q K N ⟨some d, .move x, t, p, af, g⟩ :=
  okVal hK hg rfl fun e a w hk => ⟨_, rfl, hx a w (fun s hs => hk s (by simp [Op.operands, hs])) e⟩
theorem ok_assign (hK : K d = (c, y)) (hg : Gd ops K g c) (hx : Opd K c x y) : OpOK Try.prog ops Q K N ⟨some d, .assign x, t, p, af, g⟩ :=
  okVal hK hg rfl fun e a w hk => ⟨_, rfl, hx a w (fun s hs => hk s (by simp [Op.operands, hs])) e⟩
theorem ok_not {b : Bool} {u : TypeId} (hK : K d = (c, .bool (!b))) (hg : Gd ops K g c) (hx : Opd K c x (.bool b)) : OpOK Try.prog ops Q K N ⟨some d, .unOp .not u x, t, p, af, g⟩ :=
  okVal hK hg rfl fun e a w hk => by
    have h1 : a.eval x = .bool b := hx a w (fun s hs => hk s (by simp [Op.operands, hs])) e
    refine ⟨.bool (!b), ?_, rfl⟩
    simp only [execOp, h1]
    rfl
theorem ok_or {b b2 : Bool} (hK : K d = (c, .bool (b || b2))) (hg : Gd ops K g c) (hx : Opd K c x (.bool b)) (hx2 : Opd K (c && (b == false)) x2 (.bool b2)) : OpOK Try.prog ops Q K N ⟨some d, .pick x (.const (.bool true)) x2, t, p, af, g⟩ :=
  okVal hK hg rfl fun e a w hk => by
    have h1 : a.eval x = .bool b := hx a w (fun s hs => hk s (by simp [Op.operands, hs])) e
    refine ⟨.bool (b || b2), ?_, rfl⟩
    simp only [execOp, h1]
    cases b with
    | true => rfl
    | false =>
      have h2 : a.eval x2 = .bool b2 := hx2 a w (fun s hs => hk s (by simp [Op.operands, hs])) (by rw [e]; rfl)
      show Result.ok (Next.value (a.eval x2)) w = _
      rw [h2]; rfl
theorem ok_and {b b2 : Bool} (hK : K d = (c, .bool (b && b2))) (hg : Gd ops K g c) (hx : Opd K c x (.bool b)) (hx2 : Opd K (c && (b == true)) x2 (.bool b2)) : OpOK Try.prog ops Q K N ⟨some d, .pick x x2 (.const (.bool false)), t, p, af, g⟩ :=
  okVal hK hg rfl fun e a w hk => by
    have h1 : a.eval x = .bool b := hx a w (fun s hs => hk s (by simp [Op.operands, hs])) e
    refine ⟨.bool (b && b2), ?_, rfl⟩
    simp only [execOp, h1]
    cases b with
    | false => rfl
    | true =>
      have h2 : a.eval x2 = .bool b2 := hx2 a w (fun s hs => hk s (by simp [Op.operands, hs])) (by rw [e]; rfl)
      show Result.ok (Next.value (a.eval x2)) w = _
      rw [h2]; rfl
/-- A pure operation on two values that are known. -/
theorem ok_bin {op : BinOp} {u u' : TypeId} {v1 v2 r : Value} (hK : K d = (c, .val r)) (hg : Gd ops K g c) (hx : Opd K c x (.val v1)) (hx2 : Opd K c x2 (.val v2))
    (hr : ∀ w, ((do eqGuard op u x x2 v1 v2; binOp op u v1 v2 : Sem Value)).run Try.prog w = .ok r w) : OpOK Try.prog ops Q K N ⟨some d, .binOp op u x x2 u', t, p, af, g⟩ :=
  okVal hK hg rfl fun e a w hk => by
    have h1 : a.eval x = v1 := hx a w (fun s hs => hk s (by simp [Op.operands, hs])) e
    have h2 : a.eval x2 = v2 := hx2 a w (fun s hs => hk s (by simp [Op.operands, hs])) e
    refine ⟨r, ?_, rfl⟩
    have h3 := hr w
    simp only [execOp, h1, h2, Sem.run_bind] at h3 ⊢
    rw [h3]
    rfl
/-- A label is read. -/
theorem ok_load {u : TypeId} {ls : List Lab} {k : Nat} (hK : K d = (c, .lab l)) (hg : Gd ops K g c) (hx : Opd K c x (.var u ls k)) (hl : ls[k]? = some l) : OpOK Try.prog ops Q K N ⟨some d, .load 39 x, t, p, af, g⟩ :=
  okOf hK hg rfl fun e a w hk R hR => by
    obtain ⟨q, cs, h1, h2, h3⟩ := hx a w (fun s hs => hk s (by simp [Op.operands, hs])) e
    have h4 := (h3.drop k).take 1
    have h5 : (ls.drop k).take 1 = [l] := by
      obtain ⟨hk', rfl⟩ := List.getElem?_eq_some_iff.1 hl
      rw [List.drop_eq_getElem_cons hk']; rfl
    rw [h5] at h4
    have h6 : ((cs.toList.drop (2 * k)).take (2 * 1)).length = 2 := by rw [h4.length]; rfl
    refine wp_load_mid 39 x rfl q (2 * k) h1 ((cs.toList.drop (2 * k)).take (2 * 1)) _ (fun j v hv => ?_) Try.underlying39 rfl (by rw [h6]; kernel_rfl) (hR _ w (Below.refl _ _) ⟨_, rfl, h4⟩)
    rw [h2.cell]
    have hj : j < 2 := by
      rcases Nat.lt_or_ge j 2 with h | h
      · exact h
      · rw [List.getElem?_eq_none (by omega)] at hv; cases hv
    rw [List.getElem?_take, if_pos (by omega), List.getElem?_drop] at hv
    simpa using hv
/-- A seed is read. -/
theorem ok_loadS (hK : K d = (c, .seed l)) (hg : Gd ops K g c) (hx : Opd K c x (.sbox l)) : OpOK Try.prog ops Q K N ⟨some d, .load 36 x, t, p, af, g⟩ :=
  okOf hK hg rfl fun e a w hk R hR => by
    obtain ⟨q, o, c0, c1, h1, h2, h3, h4, h5⟩ := hx a w (fun s hs => hk s (by simp [Op.operands, hs])) e
    refine wp_load_mid 36 x rfl q o h1 [c0, c1] _ (fun j v hv => ?_) Try.underlying36 rfl (by kernel_rfl) (hR _ w (Below.refl _ _) h5)
    rcases j with _ | _ | j
    · simp at hv; subst hv; exact h3
    · simp at hv; subst hv; exact h4
    · simp at hv
/-- A call of a function, by its contract. -/
theorem ok_call1 (f : FuncId) {ty : TypeId} {y1 : Sym} (hK : K d = (c, y)) (hg : Gd ops K g c) (hx : Opd K c x y1)
    (hrun : ∀ (a : Act) (w : World), (execOp a.eval ⟨some d, .call { callee := .value (.func f), args := #[x], argTypes := #[ty] }, t, p, af, g⟩).run Try.prog w = .ok (.enter f #[a.eval x]) w)
    (hc : ∀ w v1, y1.on w v1 → Calls Try.prog f #[v1] w fun e w' => ∃ v, e = .returned v ∧ y.on w' v ∧ Below w.heap.size w w') :
    OpOK Try.prog ops Q K N ⟨some d, .call { callee := .value (.func f), args := #[x], argTypes := #[ty] }, t, p, af, g⟩ :=
  okOf hK hg rfl fun e a w hk R hR => by
    unfold Oper.wp
    rw [hrun, Oper.upon_enter]
    refine (hc w _ (hx a w (fun s hs => hk s (by simp [Op.operands, Call.operands, hs])) e)).mono ?_
    rintro _ w' ⟨v, rfl, h1, h2⟩
    exact hR v w' h2 h1
theorem ok_call0 (f : FuncId) (hK : K d = (c, y)) (hg : Gd ops K g c)
    (hrun : ∀ (a : Act) (w : World), (execOp a.eval ⟨some d, .call { callee := .value (.func f), args := #[], argTypes := #[] }, t, p, af, g⟩).run Try.prog w = .ok (.enter f #[]) w)
    (hc : ∀ w, Calls Try.prog f #[] w fun e w' => ∃ v, e = .returned v ∧ y.on w' v ∧ Below w.heap.size w w') :
    OpOK Try.prog ops Q K N ⟨some d, .call { callee := .value (.func f), args := #[], argTypes := #[] }, t, p, af, g⟩ :=
  okOf hK hg rfl fun e a w hk R hR => by
    unfold Oper.wp
    rw [hrun, Oper.upon_enter]
    refine (hc w).mono ?_
    rintro _ w' ⟨v, rfl, h1, h2⟩
    exact hR v w' h2 h1
theorem ok_call2 (f : FuncId) {ty ty2 : TypeId} {y1 y2 : Sym} (hK : K d = (c, y)) (hg : Gd ops K g c) (hx : Opd K c x y1) (hx2 : Opd K c x2 y2)
    (hrun : ∀ (a : Act) (w : World), (execOp a.eval ⟨some d, .call { callee := .value (.func f), args := #[x, x2], argTypes := #[ty, ty2] }, t, p, af, g⟩).run Try.prog w = .ok (.enter f #[a.eval x, a.eval x2]) w)
    (hc : ∀ w v1 v2, y1.on w v1 → y2.on w v2 → Calls Try.prog f #[v1, v2] w fun e w' => ∃ v, e = .returned v ∧ y.on w' v ∧ Below w.heap.size w w') :
    OpOK Try.prog ops Q K N ⟨some d, .call { callee := .value (.func f), args := #[x, x2], argTypes := #[ty, ty2] }, t, p, af, g⟩ :=
  okOf hK hg rfl fun e a w hk R hR => by
    unfold Oper.wp
    rw [hrun, Oper.upon_enter]
    refine (hc w _ _ (hx a w (fun s hs => hk s (by simp [Op.operands, Call.operands, hs])) e) (hx2 a w (fun s hs => hk s (by simp [Op.operands, Call.operands, hs])) e)).mono ?_
    rintro _ w' ⟨v, rfl, h1, h2⟩
    exact hR v w' h2 h1
theorem ok_call3 (f : FuncId) {ty ty2 ty3 : TypeId} {x3 : Operand} {y1 y2 y3 : Sym} (hK : K d = (c, y)) (hg : Gd ops K g c) (hx : Opd K c x y1) (hx2 : Opd K c x2 y2) (hx3 : Opd K c x3 y3)
    (hrun : ∀ (a : Act) (w : World), (execOp a.eval ⟨some d, .call { callee := .value (.func f), args := #[x, x2, x3], argTypes := #[ty, ty2, ty3] }, t, p, af, g⟩).run Try.prog w = .ok (.enter f #[a.eval x, a.eval x2, a.eval x3]) w)
    (hc : ∀ w v1 v2 v3, y1.on w v1 → y2.on w v2 → y3.on w v3 → Calls Try.prog f #[v1, v2, v3] w fun e w' => ∃ v, e = .returned v ∧ y.on w' v ∧ Below w.heap.size w w') :
    OpOK Try.prog ops Q K N ⟨some d, .call { callee := .value (.func f), args := #[x, x2, x3], argTypes := #[ty, ty2, ty3] }, t, p, af, g⟩ :=
  okOf hK hg rfl fun e a w hk R hR => by
    unfold Oper.wp
    rw [hrun, Oper.upon_enter]
    refine (hc w _ _ _ (hx a w (fun s hs => hk s (by simp [Op.operands, Call.operands, hs])) e) (hx2 a w (fun s hs => hk s (by simp [Op.operands, Call.operands, hs])) e) (hx3 a w (fun s hs => hk s (by simp [Op.operands, Call.operands, hs])) e)).mono ?_
    rintro _ w' ⟨v, rfl, h1, h2⟩
    exact hR v w' h2 h1
/-- A seed is laid into a variable of its own. -/
theorem ok_boxS (hK : K d = (c, .sbox l)) (hg : Gd ops K g c) (hx : Opd K c x (.seed l)) : OpOK Try.prog ops Q K N ⟨some d, .box 36 x, t, p, af, g⟩ :=
  okOf hK hg rfl fun e a w hk R hR => by
    have hv := hx a w (fun s hs => hk s (by simp [Op.operands, hs])) e
    obtain ⟨D, L, A, cl, h1, h2, h3, h4⟩ := hv
    have hb : Below w.heap.size w (w.alloc (.cells #[.int .i64 D, .slice A L.length cl] 36)) := (Below.refl _ _).alloc (Nat.le_refl _) _
    have hB := Blk.new w 36 #[.int .i64 D, .slice A L.length cl]
    have hR := hR (.pointer (some ⟨w.heap.size, 0, none⟩)) (w.alloc (.cells #[.int .i64 D, .slice A L.length cl] 36)) hb ⟨w.heap.size, 0, .int .i64 D, .slice A L.length cl, rfl, hB.lt, (hB.cell 0).trans rfl, (hB.cell 1).trans rfl, D, L, A, cl, h1, rfl, (h3.keep (fun p hp => hb.cell hp)).more hb.size, h4⟩
    unfold Oper.wp
    simp only [execOp, h2]
    go_simp
    exact hR
/-- A new variable for a label. -/
theorem ok_alloc (hK : K d = (true, .fresh 39 1)) : OpOK Try.prog ops Q K N ⟨some d, .alloc 39, t, p, af, none⟩ := fun a w _ _ R hR => by
  rw [if_pos (by simp [Region.wanted])]
  have hb : Below w.heap.size w (w.alloc (.cells #[.int .i64 0, .slice none 0 0] 39)) := (Below.refl _ _).alloc (Nat.le_refl _) _
  have hB := Blk.new w 39 #[.int .i64 0, .slice none 0 0]
  have hR := hR (.pointer (some ⟨w.heap.size, 0, none⟩)) (w.alloc (.cells #[.int .i64 0, .slice none 0 0] 39)) hb (fun d' hd => by
    cases hd
    rw [hK]
    refine ⟨fun _ => ⟨w.heap.size, _, rfl, hB, rfl, fun i u hu n => ?_⟩, (fun e => by cases e)⟩
    rcases i with _ | _ | i <;> simp at hu <;> subst hu <;> simp) (fun _ => ⟨rfl, by simp⟩)
  unfold Oper.wp
  go_simp
  exact hR
end
end

/-- Where a law's walk stands. -/
structure St (N : Nat) (K : Nat → Bool × Sym) (D : List Nat) (a : Act) (w : World) : Prop where
  size : a.tmps.size = N
  defers : a.defers = []
  known : ∀ s ∈ D, Known K a w s
theorem St.get {N : Nat} {K : Nat → Bool × Sym} {D : List Nat} {a : Act} {w : World} {y : Sym} (h : St N K D a w) (s : Nat) (hs : D.contains s = true) (hK : K s = (true, y)) : y.on w (a.tmps.getD s undef) := by
  have := (h.known s (by simpa using hs)).1
  rw [hK] at this
  exact this rfl
def AllEq (K' K : Nat → Bool × Sym) : List Nat → Prop
  | [] => True
  | s :: t => K' s = K s ∧ AllEq K' K t
theorem allEq_at {K' K : Nat → Bool × Sym} : ∀ {l : List Nat}, AllEq K' K l → ∀ s ∈ l, K' s = K s
  | _ :: _, h, s, hs => by
    rcases List.mem_cons.1 hs with rfl | hs
    · exact h.1
    · exact allEq_at h.2 s hs
theorem St.to {N : Nat} {K K' : Nat → Bool × Sym} {D D' : List Nat} {a : Act} {w : World} (h : St N K D a w) (hD : D'.all D.contains = true) (hE : AllEq K' K D') : St N K' D' a w :=
  ⟨h.size, h.defers, fun s hs => by
    have := h.known s (by simpa using List.all_eq_true.1 hD s hs)
    unfold Known at this ⊢
    rw [allEq_at hE s hs]
    exact this⟩
theorem St.mono {N : Nat} {K : Nat → Bool × Sym} {D : List Nat} {a : Act} {w w' : World} (h : St N K D a w) (hb : Below w.heap.size w w') : St N K D a w' := ⟨h.size, h.defers, fun s hs => (h.known s hs).mono hb⟩

theorem mem_dsts {l : List Oper} {s : Nat} (h : s ∈ dstsOf l) : ∃ (i : Nat) (o : Oper), l[i]? = some o ∧ o.dst = some s := by
  obtain ⟨o, ho, hs⟩ := List.mem_flatMap.1 h
  obtain ⟨i, hi, rfl⟩ := List.getElem_of_mem ho
  exact ⟨i, _, List.getElem?_eq_getElem hi, by simpa using hs⟩

/-- A region whose operations only add to memory. -/
theorem flow0 {id N : Nat} {l : List Oper} {b : Bool} {Q : Exit → Act → World → Prop} {K : Nat → Bool × Sym} {D : List Nat} {a : Act} {w : World} (h : St N K D a w) (hB : flowB l.toArray D l.length N = true)
    (hops : AllOK Try.prog l.toArray Q K N l) (hQ : ∀ a' w', Below w.heap.size w w' → St N K (D ++ dstsOf l) a' w' → Q .normal a' w') : (Code.region id l.toArray b).wp Try.prog Q a w := by
  refine wp_flow l.length D K N (by kernel_rfl) hB h.size h.defers h.known (by rw [List.take_length]; exact hops) fun a' w' F => ?_
  rw [List.drop_length]
  refine hQ a' w' F.below ⟨F.size, F.defers, fun s hs => ?_⟩
  rcases List.mem_append.1 hs with hs | hs
  · exact F.env s hs w' F.below
  · obtain ⟨i, o, hi, hd⟩ := mem_dsts hs
    obtain ⟨hl, _⟩ := List.getElem?_eq_some_iff.1 hi
    exact F.head i o s hl (by simpa using hi) hd

/- What a store puts where: the variable's slot, the value's, the type, the labels. -/
def StoresAre : List Oper → List (Nat × Nat × TypeId × List Lab) → Prop
  | [], [] => True
  | o :: os, (t, x, T, ls) :: ss => (o.op = .store T (.tmp t) (.tmp x) ∧ o.dst = none ∧ o.guard = none ∧ (Try.prog.info? T).map (·.size) = some (2 * ls.length)) ∧ StoresAre os ss
  | _, _ => False

theorem PairsAt.setRow {w : World} {B g : Nat} {A : Option Addr} {l : List (Int × Int)} {t : TypeId} {cs cs' : Array Value} (h : PairsAt w B A l) (k : Blk w g t cs) (hn : ∀ (i : Nat) (u : Value), cs[i]? = some u → ∀ x : Int, u ≠ Value.int .u32 x) : PairsAt (w.setRow g cs') B A l := fun hl => by
  obtain ⟨b, off, e, hb, hc⟩ := h hl
  have hne : b ≠ g := by
    rintro rfl
    have h0 := (hc 0 hl).1
    rw [k.cell] at h0
    exact hn _ _ h0 _ rfl
  have hcell : ∀ p : Addr, p.block = b → (w.setRow g cs').cell? p = w.cell? p := fun p hp => World.cell?_of_block (by rw [hp]; exact setRow_other w g b cs' hne)
  exact ⟨b, off, e, hb, fun j hj => ⟨(hcell _ rfl).trans (hc j hj).1, (hcell _ rfl).trans (hc j hj).2⟩⟩

theorem stores_run {ops : Array Oper} {Q : Exit → Act → World → Prop} {a : Act} {B : Nat} {w1 : World} : ∀ (os : List Oper) (ss dn : List (Nat × Nat × TypeId × List Lab)) (w : World), StoresAre os ss →
    (∀ e ∈ ss, B ≤ w.heap.size ∧ (∃ g cs, a.tmps.getD e.1 undef = .pointer (some ⟨g, 0, none⟩) ∧ B ≤ g ∧ Blk w g e.2.2.1 cs ∧ cs.size = 2 * e.2.2.2.length ∧ ∀ (i : Nat) (u : Value), cs[i]? = some u → ∀ x : Int, u ≠ Value.int .u32 x) ∧ LabsV w w.heap.size (a.tmps.getD e.2.1 undef) e.2.2.2) →
    ss.Pairwise (fun e e' => a.tmps.getD e.1 undef ≠ a.tmps.getD e'.1 undef) → Below B w1 w →
    (∀ e ∈ dn, (Sym.var e.2.2.1 e.2.2.2 0).on w (a.tmps.getD e.1 undef) ∧ ∀ e' ∈ ss, a.tmps.getD e'.1 undef ≠ a.tmps.getD e.1 undef) →
    (∀ w', Below B w1 w' → (∀ e ∈ dn ++ ss, (Sym.var e.2.2.1 e.2.2.2 0).on w' (a.tmps.getD e.1 undef)) → Q .normal a w') → wpList Try.prog ops Q os a w
  | [], [], dn, w, _, _, _, hb, hdn, hQ => hQ w hb (fun e he => (hdn e (by simpa using he)).1)
  | [], _ :: _, _, _, h, _, _, _, _, _ => h.elim
  | _ :: _, [], _, _, h, _, _, _, _, _ => h.elim
  | o :: os, (t, x, T, ls) :: ss, dn, w, ⟨⟨h1, h2, h3, h4⟩, hs⟩, hss, hpw, hb, hdn, hQ => by
    obtain ⟨hBw, ⟨g, cs, e1, e2, e3, e4, e5⟩, cells, e6, e7⟩ := hss (t, x, T, ls) (by simp)
    simp only at e1 e2 e3 e4 e6 e7
    have hlen := e7.length
    refine wpList_store_rowTo h3 T (.tmp t) (.tmp x) h1 h2 g cells.toArray e1 e6 T cs e3 (by rw [h4]; simp [hlen]) (by simp [e4, hlen]) (by simpa using e7.one) ?_
    have hk : ∀ A l, PairsAt w w.heap.size A l → PairsAt (w.setRow g cells.toArray) (w.setRow g cells.toArray).heap.size A l := fun A l p => by rw [size_setRow]; exact p.setRow e3 e5
    have hpw' := List.pairwise_cons.1 hpw
    refine stores_run os ss ((t, x, T, ls) :: dn) _ hs (fun e he => ?_) hpw'.2 (below_setRow hb e2 _) (fun e he => ?_) (fun w' hb' hall => hQ w' hb' (fun e he => hall e (by
      rcases List.mem_append.1 he with he | he
      · exact List.mem_append_left _ (List.mem_cons_of_mem _ he)
      · rcases List.mem_cons.1 he with rfl | he
        · simp
        · exact List.mem_append_right _ he)))
    · obtain ⟨_, ⟨g', cs', f1, f2, f3, f4, f5⟩, cl, f6, f7⟩ := hss e (List.mem_cons_of_mem _ he)
      have hne : g' ≠ g := by
        rintro rfl
        exact hpw'.1 e he (e1.trans f1.symm)
      exact ⟨by rw [size_setRow]; exact hBw, ⟨g', cs', f1, f2, (setRow_other w g g' _ hne).trans f3, f4, f5⟩, cl, f6, f7.keep hk⟩
    · rcases List.mem_cons.1 he with rfl | he
      · refine ⟨⟨g, cells.toArray, e1, setRow_heap w g cs _ T _ e3, ?_⟩, fun e' he' => (hpw'.1 e' he').symm⟩
        simpa using e7.keep hk
      · obtain ⟨⟨g', cs', f1, f2, f3⟩, f4⟩ := hdn e he
        have hne : g' ≠ g := by
          rintro rfl
          exact f4 (t, x, T, ls) (by simp) (e1.trans f1.symm)
        exact ⟨⟨g', cs', f1, (setRow_other w g g' _ hne).trans f2, f3.keep hk⟩, fun e' he' => f4 e' (List.mem_cons_of_mem _ he')⟩

def PutsOK (K K' : Nat → Bool × Sym) : List (Nat × Nat × TypeId × List Lab) → Prop
  | [] => True
  | (t, x, T, ls) :: ss => (K t = (true, .fresh T ls.length) ∧ K x = (true, .labs ls) ∧ K' t = (true, .var T ls 0)) ∧ PutsOK K K' ss
theorem putsOK_at {K K' : Nat → Bool × Sym} : ∀ {ss : List (Nat × Nat × TypeId × List Lab)}, PutsOK K K' ss → ∀ e ∈ ss, K e.1 = (true, .fresh e.2.2.1 e.2.2.2.length) ∧ K e.2.1 = (true, .labs e.2.2.2) ∧ K' e.1 = (true, .var e.2.2.1 e.2.2.2 0)
  | _ :: _, h, e, he => by
    rcases List.mem_cons.1 he with rfl | he
    · exact h.1
    · exact putsOK_at h.2 e he

/-- What the stores need of the head: each variable was made there, each value is known. -/
def putsB (l : List Oper) (D : List Nat) (n : Nat) (ss : List (Nat × Nat × TypeId × List Lab)) : Bool :=
  ss.all (fun e => (l.take n).any (fun o => isAlloc o && o.dst == some e.1) && (D ++ dstsOf (l.take n)).contains e.2.1) && decide ((ss.map (·.1)).Nodup)

/-- A region that makes variables and stores labels in them. -/
theorem flowS {id N : Nat} {l : List Oper} {b : Bool} {Q : Exit → Act → World → Prop} {K : Nat → Bool × Sym} {D : List Nat} {a : Act} {w : World} (K' : Nat → Bool × Sym) (n : Nat) (ss : List (Nat × Nat × TypeId × List Lab)) (h : St N K D a w) (hB : flowB l.toArray D n N = true)
    (hP : putsB l D n ss = true) (hS : StoresAre (l.drop n) ss) (hK : PutsOK K K' ss) (hE : AllEq K' K D)
    (hops : AllOK Try.prog l.toArray Q K N (l.take n)) (hQ : ∀ a' w', Below w.heap.size w w' → St N K' (D ++ ss.map (·.1)) a' w' → Q .normal a' w') : (Code.region id l.toArray b).wp Try.prog Q a w := by
  have fb := flowB_iff hB
  simp only [putsB, Bool.and_eq_true, List.all_eq_true, decide_eq_true_eq, List.any_eq_true, beq_iff_eq] at hP
  obtain ⟨hP, hnd⟩ := hP
  refine wp_flow n D K N (by kernel_rfl) hB h.size h.defers h.known hops fun a' w' F => ?_
  have hat : ∀ i o, (l.take n)[i]? = some o → i < n ∧ l.toArray[i]? = some o := fun i o hi => by
    obtain ⟨hl, _⟩ := List.getElem?_eq_some_iff.1 hi
    simp only [List.length_take] at hl
    rw [List.getElem?_take, if_pos (by omega)] at hi
    exact ⟨by omega, by simpa using hi⟩
  have hal : ∀ e ∈ ss, ∃ i o, i < n ∧ l.toArray[i]? = some o ∧ o.dst = some e.1 ∧ isAlloc o = true := fun e he => by
    obtain ⟨⟨o, ho, h1, h2⟩, _⟩ := hP e he
    obtain ⟨i, hi, rfl⟩ := List.getElem_of_mem ho
    obtain ⟨h3, h4⟩ := hat i _ (List.getElem?_eq_getElem hi)
    exact ⟨i, _, h3, h4, h2, h1⟩
  have hkn : ∀ s, s ∈ D ++ dstsOf (l.take n) → Known K a' w' s := fun s hs => by
    rcases List.mem_append.1 hs with hs | hs
    · exact F.env s hs w' F.below
    · obtain ⟨i, o, hi, hd⟩ := mem_dsts hs
      obtain ⟨h1, h2⟩ := hat i o hi
      exact F.head i o s h1 h2 hd
  refine stores_run (l.drop n) ss [] w' hS (fun e he => ⟨F.below.size, ?_, ?_⟩) ?_ F.below (fun e he => by cases he) (fun w'' hb'' hall => hQ a' w'' hb'' ⟨F.size, F.defers, fun s hs => ?_⟩)
  · obtain ⟨i, o, hi, ho, hd, hA⟩ := hal e he
    obtain ⟨g, h1, h2, _⟩ := F.fresh i o e.1 hi ho hd hA
    have h4 := (F.head i o e.1 hi ho hd).1
    rw [(putsOK_at hK e he).1] at h4
    obtain ⟨g', cs, h5, h6, h7, h8⟩ := h4 rfl
    rw [h1] at h5
    cases h5
    exact ⟨g, cs, h1, h2, h6, h7, h8⟩
  · have h4 := (hkn e.2.1 (by have := (hP e he).2; simpa using this)).1
    rw [(putsOK_at hK e he).2.1] at h4
    exact h4 rfl
  · have hnd' : ss.Pairwise (fun e e' => e.1 ≠ e'.1) := by
      have := hnd
      rw [List.Nodup, List.pairwise_map] at this
      exact this
    refine hnd'.imp_of_mem ?_
    intro e e' he he' hne
    obtain ⟨i, o, hi, ho, hd, hA⟩ := hal e he
    obtain ⟨j, o', hj, ho', hd', hA'⟩ := hal e' he'
    refine F.apart i o e.1 j o' e'.1 hi ho hd hA hj ho' hd' hA' ?_
    rintro rfl
    rw [ho] at ho'
    cases ho'
    rw [hd] at hd'
    exact hne (Option.some.inj hd')
  · rcases List.mem_append.1 hs with hs | hs
    · have h4 := F.env s hs w'' hb''
      unfold Known at h4 ⊢
      rw [allEq_at hE s hs]
      exact h4
    · obtain ⟨e, he, rfl⟩ := List.mem_map.1 hs
      unfold Known
      rw [(putsOK_at hK e he).2.2]
      exact ⟨fun _ => hall e (by simpa using he), (fun e => by cases e)⟩
end Go.Proofs.Ytihddficgpjgpaa

/- The functions on labels, by what they make of what is known; the end of a law; a seed that a caller hands in. -/
namespace Go.Proofs.Ytihddficgpjgpaa
open Go.RowKit Go.ChangeShapes Go.WideShapes

/-- A label that is in order, of at most n pairs. -/
structure OKL (l : Lab) (n : Nat) : Prop where
  good : Good l
  len : l.ps.length ≤ n
theorem Fine.okl {l : Lab} (h : Fine l) : OKL l 12 := ⟨h.good, h.len⟩
theorem okl_join {a b : Lab} {m n : Nat} (ha : OKL a m) (hb : OKL b n) : OKL (joinL a b) (m + n) := ⟨good_join ha.good hb.good, Nat.le_trans (merge_length _ _ _) (by have := ha.len; have := hb.len; omega)⟩
theorem okl_meet {a b : Lab} {m n : Nat} (ha : OKL a m) (hb : OKL b n) : OKL (meetL a b) (m + n) := ⟨good_meet ha.good hb.good, Nat.le_trans (merge_length _ _ _) (by have := ha.len; have := hb.len; omega)⟩
theorem okl_turn {a : Lab} {m : Nat} (f t : Int) (ha : OKL a m) : OKL (turnL f t a) (m + m) := ⟨good_turn f t ha.good, Nat.le_trans (merge_length _ _ _) (by have := ha.len; omega)⟩
theorem okl_raise {a : Lab} {m : Nat} (ha : OKL a m) : OKL (raiseL a) (m + m) := okl_turn 0 5 ha
theorem okl_lower {a : Lab} {m : Nat} (ha : OKL a m) : OKL (lowerL a) (m + m) := okl_turn 5 0 ha
theorem okl_rest {a : Lab} {m : Nat} (ha : OKL a m) : OKL (restL a) (m + m) := okl_turn 0 2 ha
theorem okl_with {a : Lab} {m : Nat} (ha : OKL a m) {c : Int} (hc : 0 < c) (v : Int) : OKL (withL a c v) (m + 1) := ⟨good_with ha.good hc v, Nat.le_trans (with_length _ _ _ _) (by have := ha.len; omega)⟩
theorem okl_of (d : Int) : OKL ⟨d, []⟩ 0 := ⟨good_of d, Nat.le_refl _⟩

section
variable {w : World} {v v1 v2 v3 : Value} {a b : Lab} {m n : Nat}
theorem lab_on (h : LabV w w.heap.size v a) : (Sym.lab a).on w v := labsV_one.2 h
theorem on_lab (h : (Sym.lab a).on w v) : LabV w w.heap.size v a := labsV_one.1 h

theorem gives_lab {f : FuncId} {args : Array Value} (h : Calls Try.prog f args w fun e w' => ∃ v, e = .returned v ∧ LabV w' w'.heap.size v a ∧ Below w.heap.size w w') : Calls Try.prog f args w fun e w' => ∃ v, e = .returned v ∧ (Sym.lab a).on w' v ∧ Below w.heap.size w w' :=
  h.mono fun _ _ ⟨v, h1, h2, h3⟩ => ⟨v, h1, lab_on h2, h3⟩
theorem gives_val {f : FuncId} {args : Array Value} {x : Value} (h : Calls Try.prog f args w fun e w' => e = .returned x ∧ Below w.heap.size w w') : Calls Try.prog f args w fun e w' => ∃ v, e = .returned v ∧ (Sym.val x).on w' v ∧ Below w.heap.size w w' :=
  h.mono fun _ _ ⟨h1, h3⟩ => ⟨x, h1, rfl, h3⟩

theorem c36 (w : World) (v : Value) (h : (Sym.seed a).on w v) : Calls Try.prog 36 #[v] w fun e w' => ∃ v, e = .returned v ∧ (Sym.lab a).on w' v ∧ Below w.heap.size w w' := gives_lab (seed_any v a w h)
theorem c48 (w : World) : Calls Try.prog 48 #[] w fun e w' => ∃ v, e = .returned v ∧ (Sym.val (.bool true)).on w' v ∧ Below w.heap.size w w' := gives_val (fit02 w)
theorem c57 (ha : OKL a m) (hb : OKL b n) (hl : m + n ≤ 100000) (w : World) (v1 v2 : Value) (h1 : (Sym.lab a).on w v1) (h2 : (Sym.lab b).on w v2) : Calls Try.prog 57 #[v1, v2] w fun e w' => ∃ v, e = .returned v ∧ (Sym.val (.bool (leqB a b))).on w' v ∧ Below w.heap.size w w' := gives_val (leq_any v1 v2 a b w (on_lab h1) (on_lab h2) (by have := ha.len; have := hb.len; omega))
theorem c58 (ha : OKL a m) (hb : OKL b n) (hl : m + n ≤ 100000) (w : World) (v1 v2 : Value) (h1 : (Sym.lab a).on w v1) (h2 : (Sym.lab b).on w v2) : Calls Try.prog 58 #[v1, v2] w fun e w' => ∃ v, e = .returned v ∧ (Sym.lab (joinL a b)).on w' v ∧ Below w.heap.size w w' := gives_lab (join_any v1 v2 a b w (on_lab h1) (on_lab h2) ha.good hb.good (by have := ha.len; have := hb.len; omega))
theorem c59 (ha : OKL a m) (hb : OKL b n) (hl : m + n ≤ 100000) (w : World) (v1 v2 : Value) (h1 : (Sym.lab a).on w v1) (h2 : (Sym.lab b).on w v2) : Calls Try.prog 59 #[v1, v2] w fun e w' => ∃ v, e = .returned v ∧ (Sym.lab (meetL a b)).on w' v ∧ Below w.heap.size w w' := gives_lab (meet_any v1 v2 a b w (on_lab h1) (on_lab h2) ha.good hb.good (by have := ha.len; have := hb.len; omega))
theorem c52 (ha : OKL a m) (hl : m ≤ 100000) (w : World) (v1 v2 : Value) (h1 : (Sym.lab a).on w v1) (h2 : (Sym.lab b).on w v2) : Calls Try.prog 52 #[v1, v2] w fun e w' => ∃ v, e = .returned v ∧ (Sym.val (.bool (sameB a b))).on w' v ∧ Below w.heap.size w w' := gives_val (lsame_any v1 v2 a b w (on_lab h1) (on_lab h2) (by have := ha.len; omega))
theorem c38 (ha : OKL a m) (hl : m ≤ 100000) (w : World) (v1 v2 : Value) (h1 : (Sym.lab a).on w v1) (h2 : (Sym.lab b).on w v2) : Calls Try.prog 38 #[v1, v2] w fun e w' => ∃ v, e = .returned v ∧ (Sym.val (.bool (sameB a b))).on w' v ∧ Below w.heap.size w w' := gives_val (rsame_any v1 v2 a b w (on_lab h1) (on_lab h2) (by have := ha.len; omega))
theorem c74 (ha : OKL a m) (hl : m ≤ 50000) (w : World) (v1 : Value) (h1 : (Sym.lab a).on w v1) : Calls Try.prog 74 #[v1] w fun e w' => ∃ v, e = .returned v ∧ (Sym.lab (raiseL a)).on w' v ∧ Below w.heap.size w w' := gives_lab (raise_any v1 a w (on_lab h1) ha.good (by have := ha.len; omega))
theorem c78 (ha : OKL a m) (hl : m ≤ 50000) (w : World) (v1 : Value) (h1 : (Sym.lab a).on w v1) : Calls Try.prog 78 #[v1] w fun e w' => ∃ v, e = .returned v ∧ (Sym.lab (lowerL a)).on w' v ∧ Below w.heap.size w w' := gives_lab (lower_any v1 a w (on_lab h1) ha.good (by have := ha.len; omega))
theorem c63 (ha : OKL a m) (hl : m ≤ 50000) (w : World) (v1 : Value) (h1 : (Sym.lab a).on w v1) : Calls Try.prog 63 #[v1] w fun e w' => ∃ v, e = .returned v ∧ (Sym.lab (restL a)).on w' v ∧ Below w.heap.size w w' := gives_lab (rest_any v1 a w (on_lab h1) ha.good (by have := ha.len; omega))
theorem c76 (ha : OKL a m) (hl : m ≤ 50000) (w : World) (v1 : Value) (h1 : (Sym.lab a).on w v1) : Calls Try.prog 76 #[v1] w fun e w' => ∃ v, e = .returned v ∧ (Sym.lab (raiseL a)).on w' v ∧ Below w.heap.size w w' := gives_lab (rraise_any v1 a w (on_lab h1) ha.good (by have := ha.len; omega))
theorem c79 (ha : OKL a m) (hl : m ≤ 50000) (w : World) (v1 : Value) (h1 : (Sym.lab a).on w v1) : Calls Try.prog 79 #[v1] w fun e w' => ∃ v, e = .returned v ∧ (Sym.lab (lowerL a)).on w' v ∧ Below w.heap.size w w' := gives_lab (rlower_any v1 a w (on_lab h1) ha.good (by have := ha.len; omega))
theorem c77 (ha : OKL a m) (hl : m ≤ 50000) (w : World) (v1 : Value) (h1 : (Sym.lab a).on w v1) : Calls Try.prog 77 #[v1] w fun e w' => ∃ v, e = .returned v ∧ (Sym.lab (restL a)).on w' v ∧ Below w.heap.size w w' := gives_lab (rrest_any v1 a w (on_lab h1) ha.good (by have := ha.len; omega))
theorem c83 (ha : OKL a m) (hb : OKL b n) (hl : m + n ≤ 100000) (w : World) (v1 v2 : Value) (h1 : (Sym.lab a).on w v1) (h2 : (Sym.lab b).on w v2) : Calls Try.prog 83 #[v1, v2] w fun e w' => ∃ v, e = .returned v ∧ (Sym.val (.bool (leqB a b))).on w' v ∧ Below w.heap.size w w' := gives_val (rleq_any v1 v2 a b w (on_lab h1) (on_lab h2) ha.good hb.good (by have := ha.len; have := hb.len; omega))
theorem c49 (ha : OKL a m) (hl : m ≤ 100000) (w : World) (v1 : Value) (h1 : (Sym.lab a).on w v1) : Calls Try.prog 49 #[v1] w fun e w' => ∃ v, e = .returned v ∧ (Sym.val (.bool (rightB a))).on w' v ∧ Below w.heap.size w w' := gives_val (right_any v1 a w (on_lab h1) (by have := ha.len; omega))
theorem c60 (n : Int) (w : World) (v1 : Value) (h1 : (Sym.int n).on w v1) : Calls Try.prog 60 #[v1] w fun e w' => ∃ v, e = .returned v ∧ (Sym.lab ⟨n, []⟩).on w' v ∧ Below w.heap.size w w' := by
  obtain rfl : v1 = .int .i64 n := h1
  exact gives_lab (of_any n w)
theorem c51 (ha : OKL a m) (hl : m ≤ 100000) {c : Int} (w : World) (v1 v2 : Value) (h1 : (Sym.lab a).on w v1) (h2 : (Sym.u32 c).on w v2) : Calls Try.prog 51 #[v1, v2] w fun e w' => ∃ v, e = .returned v ∧ (Sym.int (a.lv c)).on w' v ∧ Below w.heap.size w w' := by
  obtain rfl : v2 = .int .u32 c := h2
  exact gives_val (at_any v1 a c w (on_lab h1) (by have := ha.len; omega) ha.good)
theorem c81 (ha : OKL a m) (hl : m ≤ 100000) {c : Int} (w : World) (v1 v2 : Value) (h1 : (Sym.lab a).on w v1) (h2 : (Sym.u32 c).on w v2) : Calls Try.prog 81 #[v1, v2] w fun e w' => ∃ v, e = .returned v ∧ (Sym.int (a.lv c)).on w' v ∧ Below w.heap.size w w' := by
  obtain rfl : v2 = .int .u32 c := h2
  exact gives_val (rat_any v1 a c w (on_lab h1) (by have := ha.len; omega))
theorem c50 (ha : OKL a m) (hl : m ≤ 100000) {c x : Int} (w : World) (v1 v2 v3 : Value) (h1 : (Sym.lab a).on w v1) (h2 : (Sym.u32 c).on w v2) (h3 : (Sym.int x).on w v3) : Calls Try.prog 50 #[v1, v2, v3] w fun e w' => ∃ v, e = .returned v ∧ (Sym.lab (withL a c x)).on w' v ∧ Below w.heap.size w w' := by
  obtain rfl : v2 = .int .u32 c := h2
  obtain rfl : v3 = .int .i64 x := h3
  exact gives_lab (with_any v1 a c x w (on_lab h1) (by have := ha.len; omega) ha.good)
theorem c82 (ha : OKL a m) (hl : m ≤ 10000) {c x : Int} (hc : 0 < c) (w : World) (v1 v2 v3 : Value) (h1 : (Sym.lab a).on w v1) (h2 : (Sym.u32 c).on w v2) (h3 : (Sym.int x).on w v3) : Calls Try.prog 82 #[v1, v2, v3] w fun e w' => ∃ v, e = .returned v ∧ (Sym.lab (withL a c x)).on w' v ∧ Below w.heap.size w w' := by
  obtain rfl : v2 = .int .u32 c := h2
  obtain rfl : v3 = .int .i64 x := h3
  exact gives_lab (rwith_any v1 a c x w (on_lab h1) ha.good hc (by have := ha.len; omega))
end

/-- A law ends. -/
theorem law_ret {N : Nat} {K : Nat → Bool × Sym} {D : List Nat} {a : Act} {w W : World} {fn : Func} {b : Bool} (h : St N K D a w) (s : Nat) (hres : fn.results = #[.tmp s]) (hs : D.contains s = true) (hK : K s = (true, .bool b)) (hb : b = true) (hW : Below W.heap.size W w) :
    Code.ret.wp Try.prog (bodyPost Try.prog fn fun e w' => e = .returned (.bool true) ∧ Below W.heap.size W w') a w := by
  subst hb
  refine wp_ret (bodyPost_ret (results_tmp hres _ _ _) h.defers ?_)
  have := h.get s hs hK
  exact ⟨by rw [show a.tmps.getD s undef = .bool true from this], hW⟩

section
variable {H : Type} {enc : TypeId × Value → H} {w : World} {base : Nat} {fuel : Nat} {d : DataW H} {ps : List MemPlace}
set_option maxRecDepth 100000 in
/-- The cells of a seed. -/
theorem open_seedC {cs : List Value} {B : Nat} (h : DataW.trod enc Try.prog w 0 (fun _ => true) true fuel 36 cs = some (d, ps)) (hlt : ∀ p ∈ ps, p.block < B) : ∃ v0 v1, cs = [v0, v1] ∧ ∃ l, SeedV w B (.agg #[v0, v1]) l := by
  obtain ⟨y0, y1, n, hx, hl, h0, h1⟩ := trod_struct2 Try.underlying36 h
  simp only [Prod.mk.injEq] at hx
  have hl2 : cs.length = 2 := hl.trans (by kernel_rfl)
  match cs, hl2 with
  | [v0, v1], _ =>
    refine ⟨v0, v1, rfl, ?_⟩
    have c3 : Try.prog.cellsOf 3 = 1 := by kernel_rfl
    have c34 : Try.prog.cellsOf 34 = 1 := by kernel_rfl
    simp only [c3, c34, List.drop_zero, List.drop_succ_cons, List.take_succ_cons, List.take_zero] at h0 h1
    obtain ⟨D, e0, _, _⟩ := DataW.trod_int Try.underlying3 h0
    simp only [List.cons.injEq, and_true] at e0
    subst e0
    obtain ⟨A, L, c, e1, hm, hr⟩ := open_sliceR (R := IntR .i64) (B := B) Try.underlying34 c3 (by omega) (fun _ _ _ _ h _ => open_intR Try.underlying3 h) h1 (fun p hp => hlt p (by rw [hx.2]; exact List.mem_append_right _ hp))
    simp only [List.cons.injEq, and_true] at e1
    subst e1
    exact ⟨seedL D L, D, L, A, c, rfl, rfl, (intsAt_of hr).1, Nat.le_trans hm (by unfold maxLen; omega)⟩
set_option maxRecDepth 100000 in
/-- A seed that a caller hands in. -/
theorem open_seedV {r : Reach} {v : Value} (hv : Value.okWide Try.prog w r base 36 v) (h : DataW.Trod enc Try.prog w 0 (fun _ => true) true 36 v d ps) (hlt : ∀ p ∈ ps, p.block < w.heap.size) : ∃ l, SeedV w w.heap.size v l := by
  obtain ⟨cs, rfl, hsz⟩ := okWide_struct Try.underlying36 hv
  obtain ⟨fuel, hf⟩ := h
  obtain ⟨v0, v1, e, l, hl⟩ := open_seedC hf hlt
  have : cs = #[v0, v1] := by
    apply Array.toList_inj.1
    simpa [Value.cells] using e
  subst this
  exact ⟨l, hl⟩
end

def look (ov : List (Nat × Bool × Sym)) (tbl : List (Bool × Sym)) (s : Nat) : Bool × Sym := (ov.lookup s).getD (tbl.getD s (true, .any))
def KnowsAll (K : Nat → Bool × Sym) (a : Act) (w : World) : List Nat → Prop
  | [] => True
  | s :: t => (∃ y, K s = (true, y) ∧ y.on w (a.tmps.getD s undef)) ∧ KnowsAll K a w t
theorem knowsAll_at {K : Nat → Bool × Sym} {a : Act} {w : World} : ∀ {l : List Nat}, KnowsAll K a w l → ∀ s ∈ l, Known K a w s
  | _ :: _, h, s, hs => by
    rcases List.mem_cons.1 hs with rfl | hs
    · obtain ⟨y, h1, h2⟩ := h.1
      unfold Known
      rw [h1]
      exact ⟨fun _ => h2, (fun e => by cases e)⟩
    · exact knowsAll_at h.2 s hs
theorem st_of {N : Nat} {K : Nat → Bool × Sym} {D : List Nat} {a : Act} {w : World} (h1 : a.tmps.size = N) (h2 : a.defers = []) (h3 : KnowsAll K a w D) : St N K D a w := ⟨h1, h2, knowsAll_at h3⟩
theorem St.sub {N : Nat} {K : Nat → Bool × Sym} {D D' : List Nat} {a : Act} {w : World} (h : St N K D a w) (hD : D'.all D.contains = true) : St N K D' a w := ⟨h.size, h.defers, fun s hs => h.known s (by simpa using List.all_eq_true.1 hD s hs)⟩
/-- The condition of a branch. -/
theorem St.cond {N : Nat} {K : Nat → Bool × Sym} {D : List Nat} {a : Act} {w : World} {b : Bool} {x y : Code} {Q : Exit → Act → World → Prop} (h : St N K D a w) (s : Nat) (hs : D.contains s = true) (hK : K s = (true, .bool b))
    (ht : b = true → x.wp Try.prog Q a w) (hf : b = false → y.wp Try.prog Q a w) : (Code.cond (.tmp s) x y).wp Try.prog Q a w := by
  refine wp_cond (t := b) (h.get s hs hK) ?_
  cases b with
  | true => exact ht rfl
  | false => exact hf rfl
end Go.Proofs.Ytihddficgpjgpaa

/- More kinds of operations, by what they yield. -/
namespace Go.Proofs.Ytihddficgpjgpaa
open Go.RowKit

section
variable {ops : Array Oper} {Q : Exit → Act → World → Prop} {K : Nat → Bool × Sym} {N : Nat} {d : Nat} {t : TypeId} {p : String} {af : Array Edge} {g : Option (Nat × Bool)} {c : Bool} {x x2 : Operand}
theorem ok_eqb {a b : Bool} (hK : K d = (c, .bool (a == b))) (hg : Gd ops K g c) (hx : Opd K c x (.bool a)) (hx2 : Opd K c x2 (.bool b)) : OpOK Try.prog ops Q K N ⟨some d, .binOp .eql 4 x x2 4, t, p, af, g⟩ :=
  ok_bin hK hg hx hx2 fun w => by go_simp
theorem ok_neb {a b : Bool} (hK : K d = (c, .bool (a != b))) (hg : Gd ops K g c) (hx : Opd K c x (.bool a)) (hx2 : Opd K c x2 (.bool b)) : OpOK Try.prog ops Q K N ⟨some d, .binOp .neq 4 x x2 4, t, p, af, g⟩ :=
  ok_bin hK hg hx hx2 fun w => by go_simp; cases a <;> cases b <;> rfl
theorem ok_eqli {a b : Int} (hK : K d = (c, .bool (a == b))) (hg : Gd ops K g c) (hx : Opd K c x (.int a)) (hx2 : Opd K c x2 (.int b)) : OpOK Try.prog ops Q K N ⟨some d, .binOp .eql 3 x x2 3, t, p, af, g⟩ :=
  ok_bin hK hg hx hx2 fun w => by go_simp
theorem ok_neqi {a b : Int} (hK : K d = (c, .bool (a != b))) (hg : Gd ops K g c) (hx : Opd K c x (.int a)) (hx2 : Opd K c x2 (.int b)) : OpOK Try.prog ops Q K N ⟨some d, .binOp .neq 3 x x2 3, t, p, af, g⟩ :=
  ok_bin hK hg hx hx2 fun w => by go_simp
theorem ok_gtri {a b : Int} (hK : K d = (c, .bool (decide (b < a)))) (hg : Gd ops K g c) (hx : Opd K c x (.int a)) (hx2 : Opd K c x2 (.int b)) : OpOK Try.prog ops Q K N ⟨some d, .binOp .gtr 3 x x2 3, t, p, af, g⟩ :=
  ok_bin hK hg hx hx2 fun w => by go_simp
theorem ok_lssi {a b : Int} (hK : K d = (c, .bool (decide (a < b)))) (hg : Gd ops K g c) (hx : Opd K c x (.int a)) (hx2 : Opd K c x2 (.int b)) : OpOK Try.prog ops Q K N ⟨some d, .binOp .lss 3 x x2 3, t, p, af, g⟩ :=
  ok_bin hK hg hx hx2 fun w => by go_simp
theorem ok_neu {a b : Int} (hK : K d = (c, .bool (a != b))) (hg : Gd ops K g c) (hx : Opd K c x (.u32 a)) (hx2 : Opd K c x2 (.u32 b)) : OpOK Try.prog ops Q K N ⟨some d, .binOp .neq 70 x x2 70, t, p, af, g⟩ :=
  ok_bin hK hg hx hx2 fun w => by go_simp
end

def Sym.u8 (n : Int) : Sym := .val (.int .u8 n)
section
variable {w : World} {v1 v2 v3 : Value} {a b : Lab} {m n : Nat}
theorem c75j (ha : OKL a m) (hb : OKL b n) (hl : m + n ≤ 100000) (w : World) (v1 v2 v3 : Value) (h1 : (Sym.lab a).on w v1) (h2 : (Sym.lab b).on w v2) (h3 : (Sym.u8 106).on w v3) : Calls Try.prog 75 #[v1, v2, v3] w fun e w' => ∃ v, e = .returned v ∧ (Sym.lab (joinL a b)).on w' v ∧ Below w.heap.size w w' := by
  obtain rfl : v3 = .int .u8 106 := h3
  exact gives_lab (rmerge_any 106 max one_j v1 v2 a b w (on_lab h1) (on_lab h2) ha.good hb.good (by have := ha.len; have := hb.len; omega))
theorem c75m (ha : OKL a m) (hb : OKL b n) (hl : m + n ≤ 100000) (w : World) (v1 v2 v3 : Value) (h1 : (Sym.lab a).on w v1) (h2 : (Sym.lab b).on w v2) (h3 : (Sym.u8 109).on w v3) : Calls Try.prog 75 #[v1, v2, v3] w fun e w' => ∃ v, e = .returned v ∧ (Sym.lab (meetL a b)).on w' v ∧ Below w.heap.size w w' := by
  obtain rfl : v3 = .int .u8 109 := h3
  exact gives_lab (rmerge_any 109 min one_m v1 v2 a b w (on_lab h1) (on_lab h2) ha.good hb.good (by have := ha.len; have := hb.len; omega))
end
theorem same_ext' {a b : Lab} (ga : Good a) (gb : Good b) (h : ∀ x, a.lv x = b.lv x) : sameB a b = true := by
  rw [ext ga gb h]
  exact sameB_refl _
/-- Raised and lowered: itself, if it names no level above 4. -/
theorem lower_raise {a : Lab} (ga : Good a) (hu : Upto 4 a) : lowerL (raiseL a) = a := by
  have g1 : Good (raiseL a) := good_turn 0 5 ga
  refine ext (good_turn 5 0 g1) ga fun x => ?_
  have e1 : (lowerL (raiseL a)).lv x = turnF 5 0 ((raiseL a).lv x) := lv_turn 5 0 g1 x
  have e2 : (raiseL a).lv x = turnF 0 5 (a.lv x) := lv_turn 0 5 ga x
  have h := hu x
  rw [e1, e2]
  unfold turnF
  split <;> split <;> omega
end Go.Proofs.Ytihddficgpjgpaa

/- Slices of categories, by what is known of them: their length, their elements. -/
namespace Go.Proofs.Ytihddficgpjgpaa
open Go.RowKit

def Sym.u32s (l : List Int) : Sym := ⟨fun w v => ∃ A c, v = .slice A l.length c ∧ IntsAt .u32 w w.heap.size A l, by
  rintro w w' v ⟨A, c, h1, h2⟩ hb
  exact ⟨A, c, h1, (h2.below hb).more hb.size⟩⟩
def Sym.u32at (n : Int) : Sym := ⟨fun w v => ∃ b o, v = .pointer (some ⟨b, o, none⟩) ∧ b < w.heap.size ∧ w.cell? ⟨b, o, none⟩ = some (.int .u32 n), by
  rintro w w' v ⟨b, o, h1, h2, h3⟩ hb
  exact ⟨b, o, h1, Nat.lt_of_lt_of_le h2 hb.size, (hb.cell (p := ⟨b, o, none⟩) h2).trans h3⟩⟩
theorem own_u32s {w : World} {B : Nat} {v : Value} {l : List Int} (h : w.ownsRow B 70 1 v l.length (u32s l)) : (Sym.u32s l).on w v := by
  obtain ⟨A, c, rfl⟩ := own_slice h
  refine ⟨A, c, rfl, fun hl => ?_⟩
  obtain ⟨g, cur, rfl, hb, hB, h1, h2, h3, h4⟩ := own_blk h hl
  refine ⟨g, 0, rfl, hB.lt, fun i hi => ?_⟩
  have e : (u32s l)[i]? = some (.int .u32 l[i]) := by simp [u32s, hi]
  rw [← h4, List.getElem?_take, if_pos (by omega)] at e
  refine (hB.cell _).trans ?_
  rw [Nat.zero_add, ← e]; simp
section
variable {a : Lab} {m : Nat}
theorem c56 (ha : OKL a m) (hl : m ≤ 100000) (w : World) (v1 : Value) (h1 : (Sym.lab a).on w v1) : Calls Try.prog 56 #[v1] w fun e w' => ∃ v, e = .returned v ∧ (Sym.u32s (ownsL a)).on w' v ∧ Below w.heap.size w w' :=
  (owns_any v1 a w (on_lab h1) (by have := ha.len; omega)).mono fun _ _ ⟨v, h1, h2, h3⟩ => ⟨v, h1, own_u32s h2, h3⟩
theorem c80 (ha : OKL a m) (hl : m ≤ 100000) (w : World) (v1 : Value) (h1 : (Sym.lab a).on w v1) : Calls Try.prog 80 #[v1] w fun e w' => ∃ v, e = .returned v ∧ (Sym.u32s (ownsL a)).on w' v ∧ Below w.heap.size w w' :=
  (rowns_any v1 a w (on_lab h1) (by have := ha.len; omega)).mono fun _ _ ⟨v, h1, h2, h3⟩ => ⟨v, h1, own_u32s h2, h3⟩
end
section
variable {ops : Array Oper} {Q : Exit → Act → World → Prop} {K : Nat → Bool × Sym} {N : Nat} {d : Nat} {t : TypeId} {p : String} {af : Array Edge} {g : Option (Nat × Bool)} {c : Bool} {x x2 : Operand}
theorem ok_len {l : List Int} (hK : K d = (c, .int l.length)) (hg : Gd ops K g c) (hx : Opd K c x (.u32s l)) : OpOK Try.prog ops Q K N ⟨some d, .call { callee := .builtin .len, args := #[x], argTypes := #[75] }, t, p, af, g⟩ :=
  okVal hK hg rfl fun e a w hk => by
    obtain ⟨A, cp, h1, h2⟩ := hx a w (fun s hs => hk s (by simp [Op.operands, Call.operands, hs])) e
    refine ⟨_, ?_, rfl⟩
    have hv : a.eval x = .slice A l.length cp := h1
    clear h1
    generalize a.eval = r at hv ⊢
    go_simp
theorem ok_index {l : List Int} {i : Nat} {n : Int} (hK : K d = (c, .u32at n)) (hg : Gd ops K g c) (hx : Opd K c x (.u32s l)) (hx2 : Opd K c x2 (.int i)) (hn : l[i]? = some n) (hl : l.length ≤ 100000) : OpOK Try.prog ops Q K N ⟨some d, .indexAddr 75 x x2, t, p, af, g⟩ :=
  okVal hK hg rfl fun e a w hk => by
    obtain ⟨A, cp, h1, h2⟩ := hx a w (fun s hs => hk s (by simp [Op.operands, hs])) e
    have h3 : a.eval x2 = .int .i64 i := hx2 a w (fun s hs => hk s (by simp [Op.operands, hs])) e
    obtain ⟨hi, rfl⟩ := List.getElem?_eq_some_iff.1 hn
    obtain ⟨b, off, rfl, hb, hc⟩ := h2 (by omega)
    refine ⟨.pointer (some ⟨b, off + i, none⟩), ?_, b, off + i, rfl, hb, hc i hi⟩
    have hv : a.eval x = .slice (some ⟨b, off, none⟩) l.length cp := h1
    have hd : decide ((0 : Int) ≤ i) = true := by simp
    have hd2 : decide ((i : Int) < l.length) = true := by simp; omega
    clear h1
    generalize a.eval = r at hv h3 ⊢
    go_simp
theorem ok_loadU {n : Int} (hK : K d = (c, .u32 n)) (hg : Gd ops K g c) (hx : Opd K c x (.u32at n)) : OpOK Try.prog ops Q K N ⟨some d, .load 70 x, t, p, af, g⟩ :=
  okVal hK hg rfl fun e a w hk => by
    obtain ⟨b, o, h1, h2, h3⟩ := hx a w (fun s hs => hk s (by simp [Op.operands, hs])) e
    refine ⟨_, ?_, rfl⟩
    have hv : a.eval x = .pointer (some ⟨b, o, none⟩) := h1
    clear h1
    generalize a.eval = r at hv ⊢
    go_simp
end
end Go.Proofs.Ytihddficgpjgpaa
