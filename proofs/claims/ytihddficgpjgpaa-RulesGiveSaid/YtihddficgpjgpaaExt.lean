/- A region that draws its order, by what holds of each operation's value: one obligation an operation, not one an order. The first n operations only add to memory; the others come in their own order. No program in sight. -/
import Derived.StillTail
import Derived.Below
import Derived.Deep.Draws
namespace Go.Proofs.Ytihddficgpjgpaa
open Go.RowKit

section
variable {P : Program} {ops : Array Oper} {Q : Exit → Act → World → Prop}

theorem wpAny_more : ∀ (f : Nat) (listed : Array Bool) (a : Act) (w : World), wpAny P .any ops Q f listed a w → wpAny P .any ops Q (f + 1) listed a w
  | 0, listed, a, w, h => ⟨fun _ => h.2, fun i hi => by rw [h.1] at hi; cases hi⟩
  | f + 1, listed, a, w, h => ⟨h.1, fun i hi => wpOp_mono (fun a' w' h' => wpAny_more f _ a' w' h') (h.2 i hi)⟩
theorem wpAny_le {f g : Nat} (hfg : f ≤ g) {listed : Array Bool} {a : Act} {w : World} (h : wpAny P .any ops Q f listed a w) : wpAny P .any ops Q g listed a w := by
  induction hfg with
  | refl => exact h
  | step _ ih => exact wpAny_more _ _ _ _ ih

/-- Each edge points back. -/
def backB (ops : Array Oper) : Bool := (List.range ops.size).all fun i => (ops[i]?).all fun o => o.after.all fun e => decide (e.on < i)
/-- How many of the first n are not yet listed. -/
def todo (n : Nat) (listed : Array Bool) : Nat := ((List.range n).filter fun i => !listed.getD i true).length
theorem todo_set {n i : Nat} {listed : Array Bool} (hi : i < n) (hun : listed.getD i true = false) : todo n (listed.setIfInBounds i true) < todo n listed := by
  have hsz : i < listed.size := by
    rcases Nat.lt_or_ge i listed.size with h | h
    · exact h
    · simp [Array.getElem?_eq_none h] at hun
  unfold todo
  have hsub : ((List.range n).filter fun j => !(listed.setIfInBounds i true).getD j true) = ((List.range n).filter fun j => !listed.getD j true).filter fun j => decide (j ≠ i) := by
    rw [List.filter_filter]
    congr 1
    funext j
    by_cases e : j = i
    · subst e
      simp [hsz]
    · rw [getD_set_ne true (Ne.symm e)]
      simp [e]
  rw [hsub]
  refine List.length_filter_lt_length_iff_exists.2 ⟨i, List.mem_filter.2 ⟨List.mem_range.2 hi, by rw [hun]; rfl⟩, by simp⟩
theorem todo_zero {n : Nat} {listed : Array Bool} (h : todo n listed = 0) : ∀ i, i < n → listed.getD i true = true := fun i hi => by
  have h0 := List.eq_nil_of_length_eq_zero h
  cases hg : listed.getD i true with
  | true => rfl
  | false =>
    have : i ∈ ((List.range n).filter fun i => !listed.getD i true) := List.mem_filter.2 ⟨List.mem_range.2 hi, by rw [hg]; rfl⟩
    rw [h0] at this
    cases this

def upd (vals : Nat → Value) (i : Nat) (v : Value) : Nat → Value := fun j => if j = i then v else vals j
/-- The first n are done, the others are not. -/
def headDone (n m : Nat) : Array Bool := Array.replicate n true ++ Array.replicate (m - n) false
def extB (ops : Array Oper) (n : Nat) : Bool :=
  decide (n < ops.size) && backB ops && Region.sinkB .any ops n && Region.chainB .any ops n && Region.seqB .any ops (ops.size - n) n (headDone n ops.size)

theorem headInv_done {n : Nat} {listed : Array Bool} (hn : n ≤ ops.size) (inv : HeadInv .any ops n listed) (h : ∀ i, i < n → listed.getD i true = true) : listed = headDone n ops.size := by
  have hsz := inv.size
  apply Array.ext
  · simp [headDone, hsz]; omega
  · intro i h1 h2
    have hin : i < ops.size := by omega
    by_cases hi : i < n
    · have := h i hi
      simp [h1] at this
      simp [headDone, this, hi]
    · have := inv.tail i (by omega) hin
      simp [h1] at this
      rw [this]
      simp [headDone, Array.getElem_append, hi]

section
variable {fr : (Nat → Value) → Array Value} {G : Nat → Value → World → Prop} {isAl : Nat → Bool} {E : World → Prop} {X : World → World → Prop}
/-- What holds of the state when some are listed. -/
def ExtInv (fr : (Nat → Value) → Array Value) (G : Nat → Value → World → Prop) (isAl : Nat → Bool) (E : World → Prop) (n : Nat) (listed : Array Bool) (a : Act) (w : World) : Prop :=
  ∃ vals : Nat → Value, a = ⟨fr vals, []⟩ ∧ E w ∧ (∀ i, i < n → listed.getD i true = true → G i (vals i) w) ∧
    (∀ i j, i < n → j < n → i ≠ j → isAl i = true → isAl j = true → listed.getD i true = true → listed.getD j true = true → vals i ≠ vals j)

theorem wpAny_ext {l : List Oper} {n : Nat} (hl : ops = l.toArray) (hn : n < ops.size) (hback : backB ops = true) (hs : Region.sinkB .any ops n = true) (hc : Region.chainB .any ops n = true) (hseq : Region.seqB .any ops (ops.size - n) n (headDone n ops.size) = true)
    (hmono : ∀ i v w w', E w → X w w' → G i v w → G i v w') (hEX : ∀ w w', E w → X w w' → E w')
    (hops : ∀ i, i < n → ∀ o, ops[i]? = some o → ∀ vals w, E w → (∀ e ∈ o.after, Region.binds .any e = true → G e.on (vals e.on) w) →
      wpOp P ops Q i (fun a' w' => ∃ v, a' = ⟨fr (upd vals i v), []⟩ ∧ X w w' ∧ G i v w' ∧ (isAl i = true → ∀ j u, isAl j = true → G j u w → u ≠ v)) ⟨fr vals, []⟩ w)
    (hQ : ∀ vals w, E w → (∀ i, i < n → G i (vals i) w) → (∀ i j, i < n → j < n → i ≠ j → isAl i = true → isAl j = true → vals i ≠ vals j) → wpList P ops Q (l.drop n) ⟨fr vals, []⟩ w) :
    ∀ (k : Nat) (listed : Array Bool) (a : Act) (w : World), todo n listed ≤ k → HeadInv .any ops n listed → ExtInv fr G isAl E n listed a w → wpAny P .any ops Q (k + (ops.size - n)) listed a w := by
  intro k
  induction k with
  | zero =>
    intro listed a w hk inv hI
    obtain ⟨vals, rfl, hE, hG, hA⟩ := hI
    have hall := todo_zero (Nat.le_zero.1 hk)
    have he := headInv_done (Nat.le_of_lt hn) inv hall
    subst he
    have hlen : (l.drop n).length = ops.size - n := by rw [List.length_drop, hl]; rfl
    rw [Nat.zero_add, ← hlen]
    exact wpAny_of_seq (l.drop n) n _ _ _ (fun j => by rw [hl]; simp) (by rw [hlen]; exact hseq)
      (hQ vals w hE (fun i hi => hG i hi (hall i hi)) (fun i j hi hj hij h1 h2 => hA i j hi hj hij h1 h2 (hall i hi) (hall j hj)))
  | succ k ih =>
    intro listed a w hk inv hI
    by_cases h0 : todo n listed ≤ k
    · exact wpAny_le (by omega) (ih listed a w h0 inv hI)
    · obtain ⟨vals, rfl, hE, hG, hA⟩ := hI
      -- some of the first n is to do
      have hex : ∃ i, i < n ∧ listed.getD i true = false := by
        have hp : 0 < todo n listed := by omega
        obtain ⟨i, hi⟩ := List.exists_mem_of_length_pos hp
        obtain ⟨h1, h2⟩ := List.mem_filter.1 hi
        exact ⟨i, List.mem_range.1 h1, by simpa using h2⟩
      rw [show k + 1 + (ops.size - n) = (k + (ops.size - n)) + 1 by omega]
      obtain ⟨i0, hi0, hun0⟩ := hex
      refine ⟨fun hnil => ?_, fun i hi => ?_⟩
      · -- the least of them is ready
        exfalso
        have least : ∀ d i, i ≤ d → i < n → listed.getD i true = false → ∃ j, j < n ∧ listed.getD j true = false ∧ ∀ t, t < j → listed.getD t true = true := by
          intro d
          induction d with
          | zero =>
            intro i hid hin hun
            obtain rfl : i = 0 := by omega
            exact ⟨0, hin, hun, fun t ht => absurd ht (by omega)⟩
          | succ d ihd =>
            intro i hid hin hun
            by_cases hh : ∃ t, t < i ∧ listed.getD t true = false
            · obtain ⟨t, ht, hut⟩ := hh
              exact ihd t (by omega) (by omega) hut
            · refine ⟨i, hin, hun, fun t ht => ?_⟩
              cases hg : listed.getD t true with
              | true => rfl
              | false => exact absurd ⟨t, ht, hg⟩ hh
        obtain ⟨j, hjn, hju, hjl⟩ := least i0 i0 (Nat.le_refl _) hi0 hun0
        have hjs : j < ops.size := by omega
        have hj : j ∈ Region.ready .any ops listed := by
          refine mem_ready.2 ⟨hju, ops[j], Array.getElem?_eq_getElem hjs, fun e he _ => ?_⟩
          have hb := List.all_eq_true.1 hback j (List.mem_range.2 hjs)
          simp only [Array.getElem?_eq_getElem hjs, Option.all_some] at hb
          have he' := Array.all_eq_true'.1 hb e he
          have hlt : e.on < j := by simpa using he'
          have h1 := hjl e.on hlt
          have hsz := inv.size
          have hes : e.on < listed.size := by omega
          simp [hes] at h1 ⊢
          exact h1
        rw [hnil] at hj
        cases hj
      · have hin : i < n := by
          rcases Nat.lt_or_ge i n with h | h
          · exact h
          · exact absurd hi (tail_waits hs hc hn inv _ i0 rfl hi0 hun0 i h)
        obtain ⟨hun, o, ho, hall⟩ := mem_ready.1 hi
        refine wpOp_mono (fun a' w' hh => ?_) (hops i hin o ho vals w hE (fun e he hbn => ?_))
        · obtain ⟨v, rfl, hX, hGi, hAl⟩ := hh
          refine ih _ _ _ (by have := todo_set hin hun; omega) (inv.set hi hin) ⟨upd vals i v, rfl, hEX _ _ hE hX, fun j hj hlj => ?_, fun j j' hj hj' hne h1 h2 hl1 hl2 => ?_⟩
          · unfold upd
            by_cases e : j = i
            · subst e; rw [if_pos rfl]; exact hGi
            · rw [if_neg e]
              rw [getD_set_ne true (Ne.symm e)] at hlj
              exact hmono _ _ _ _ hE hX (hG j hj hlj)
          · unfold upd
            by_cases e : j = i
            · subst e
              have e' : j' ≠ j := Ne.symm hne
              rw [if_pos rfl, if_neg e']
              rw [getD_set_ne true (Ne.symm e')] at hl2
              exact fun hh => hAl h1 j' (vals j') h2 (hG j' hj' hl2) hh.symm
            · rw [if_neg e]
              rw [getD_set_ne true (Ne.symm e)] at hl1
              by_cases e' : j' = i
              · subst e'
                rw [if_pos rfl]
                exact hAl h2 j (vals j) h1 (hG j hj hl1)
              · rw [if_neg e']
                rw [getD_set_ne true (Ne.symm e')] at hl2
                exact hA j j' hj hj' hne h1 h2 hl1 hl2
        · have h1 := hall e he hbn
          have hs' : i < ops.size := (Array.getElem?_eq_some_iff.1 ho).1
          have hb := List.all_eq_true.1 hback i (List.mem_range.2 hs')
          simp only [ho, Option.all_some] at hb
          have he' := Array.all_eq_true'.1 hb e he
          have hlt : e.on < i := by simpa using he'
          refine hG e.on (by omega) ?_
          have hsz := inv.size
          have hes : e.on < listed.size := by omega
          simp [hes] at h1 ⊢
          exact h1

/-- A region that draws its order: what holds of each operation's value, whatever the order. -/
theorem wp_region_ext {id : Nat} {l : List Oper} (n : Nat) (fr : (Nat → Value) → Array Value) (G : Nat → Value → World → Prop) (isAl : Nat → Bool) (E : World → Prop) (X : World → World → Prop) {a : Act} {w : World}
    (hm : P.follows .mixedOrders = true) (hB : extB l.toArray n = true) (ha : ∃ vals, a = ⟨fr vals, []⟩) (hE : E w.drew)
    (hmono : ∀ i v w w', E w → X w w' → G i v w → G i v w') (hEX : ∀ w w', E w → X w w' → E w')
    (hops : ∀ i, i < n → ∀ o, l.toArray[i]? = some o → ∀ vals w, E w → (∀ e ∈ o.after, Region.binds .any e = true → G e.on (vals e.on) w) →
      wpOp P l.toArray Q i (fun a' w' => ∃ v, a' = ⟨fr (upd vals i v), []⟩ ∧ X w w' ∧ G i v w' ∧ (isAl i = true → ∀ j u, isAl j = true → G j u w → u ≠ v)) ⟨fr vals, []⟩ w)
    (hQ : ∀ vals w, E w → (∀ i, i < n → G i (vals i) w) → (∀ i j, i < n → j < n → i ≠ j → isAl i = true → isAl j = true → vals i ≠ vals j) → wpList P l.toArray Q (l.drop n) ⟨fr vals, []⟩ w) :
    (Code.region id l.toArray true).wp P Q a w := by
  simp only [extB, Bool.and_eq_true, decide_eq_true_eq] at hB
  obtain ⟨⟨⟨⟨hn, hback⟩, hs⟩, hc⟩, hseq⟩ := hB
  obtain ⟨vals, rfl⟩ := ha
  refine wp_region_any hm ?_
  have inv0 : HeadInv .any l.toArray n (Array.replicate l.toArray.size false) :=
    ⟨by simp, fun j oj _ hl => (by rw [getD_replicate_false] at hl; cases hl), fun t _ ht => getD_in (by simpa using ht) (getD_replicate_false _ _)⟩
  have hun : ∀ i, i < n → (Array.replicate l.toArray.size false).getD i true = false := fun i hi => getD_in (by simp at hn ⊢; omega) (getD_replicate_false _ _)
  have H := wpAny_ext (P := P) (Q := Q) (fr := fr) (G := G) (isAl := isAl) (E := E) (X := X) rfl hn hback hs hc hseq hmono hEX hops hQ n (Array.replicate l.toArray.size false) ⟨fr vals, []⟩ w.drew
    (by unfold todo; exact Nat.le_trans (List.length_filter_le _ _) (by simp)) inv0
    ⟨vals, rfl, hE, (fun i hi h => by rw [hun i hi] at h; cases h), (fun i j hi _ _ _ _ h => by rw [hun i hi] at h; cases h)⟩
  refine wpAny_le ?_ H
  omega
end
end
end Go.Proofs.Ytihddficgpjgpaa
