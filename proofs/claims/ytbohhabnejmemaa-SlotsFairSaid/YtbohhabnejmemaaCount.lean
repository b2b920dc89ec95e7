/- A map from ints to ints that the call makes and counts in, as a function; and the plain law of a clock's round: in as many ticks as all slots have each slot begins once; in as many turns as share a slot each has one. -/
import Derived.Test.YtbohhabnejmemaaSlotsRuns
import Derived.Maps.OwnOps
import Derived.Maps.OwnSet
namespace Go.Proofs.Ytbohhabnejmemaa
open Go.RowKit Go.Maps

/-- Block b is a map that counts: of each key below N the count f, and m keys in all. -/
def CMap (w : World) (b N n : Nat) (f : Nat → Nat) (m : Nat) : Prop :=
  ∃ D : DataW Unit, w.ownsMap Try.prog 3 (plainElem Try.prog 3) b n D ∧ (∀ i, i < N → D.atKey (.int .i64 (i : Int)) (.lit (.int .i64 0)) = .lit (.int .i64 (f i : Int))) ∧
    (∀ i, i < N → has D (.int .i64 (i : Int)) = decide (f i ≠ 0)) ∧ size D = m

theorem isKey (i : Int) : WideAt.IsKeyLit (.int .i64 i) := by simp [WideAt.IsKeyLit]

theorem CMap.made (w : World) (N : Nat) : CMap (w.alloc (.map #[] 0)) w.heap.size N 0 (fun _ => 0) 0 :=
  ⟨.map [], World.ownsMap_made _ _ _ _, fun _ _ => rfl, fun _ _ => rfl, rfl⟩

theorem CMap.grown {w w' : World} {b N n m : Nat} {f : Nat → Nat} {row : Option Nat} (h : CMap w b N n f m) (hg : w.grownBy w' row) (hne : some b ≠ row) : CMap w' b N n f m := by
  obtain ⟨D, h1, h2⟩ := h
  exact ⟨D, h1.kept hg hne, h2⟩
theorem CMap.drewN {w : World} {b N n m k : Nat} {f : Nat → Nat} (h : CMap w b N n f m) : CMap (w.drewN k) b N n f m := by
  obtain ⟨D, h1, h2⟩ := h
  exact ⟨D, h1, h2⟩
theorem CMap.lt {w : World} {b N n m : Nat} {f : Nat → Nat} (h : CMap w b N n f m) : b < w.heap.size := by
  obtain ⟨D, h1, _⟩ := h
  exact h1.lt
theorem CMap.congr {w : World} {b N n m : Nat} {f g : Nat → Nat} (h : CMap w b N n f m) (he : ∀ i, i < N → f i = g i) : CMap w b N n g m := by
  obtain ⟨D, h1, h2, h3, h4⟩ := h
  exact ⟨D, h1, fun i hi => by rw [h2 i hi, he i hi], fun i hi => by rw [h3 i hi, he i hi], h4⟩

theorem CMap.mono {w : World} {b N n n' m : Nat} {f : Nat → Nat} (h : CMap w b N n f m) (hn : n ≤ n') : CMap w b N n' f m := by
  obtain ⟨D, h1, h2⟩ := h
  exact ⟨D, h1.mono hn, h2⟩

def bump (f : Nat → Nat) (k : Nat) (i : Nat) : Nat := if i = k then f k + 1 else f i

theorem zero3 (w : World) : (zeroValue 3).run Try.prog w = .ok (.int .i64 0) w := by kernel_rfl

theorem CMap.put {w w' : World} {b N n m k : Nat} {f : Nat → Nat} {D : DataW Unit} (h1 : w.ownsMap Try.prog 3 (plainElem Try.prog 3) b n D)
    (h2 : ∀ i, i < N → D.atKey (.int .i64 (i : Int)) (.lit (.int .i64 0)) = .lit (.int .i64 (f i : Int)))
    (h3 : ∀ i, i < N → has D (.int .i64 (i : Int)) = decide (f i ≠ 0)) (h4 : size D = m) (hk : k < N)
    (h' : w'.ownsMap Try.prog 3 (plainElem Try.prog 3) b (n + 1) (D.put (.int .i64 (k : Int)) (.lit (.int .i64 ((f k : Int) + 1))))) :
    CMap w' b N (n + 1) (bump f k) (if f k = 0 then m + 1 else m) := by
  have K := int_keyed Try.underlying3
  refine ⟨_, h', fun i hi => ?_, fun i hi => ?_, ?_⟩
  · unfold bump
    by_cases e : i = k
    · subst e
      rw [if_pos rfl, atKey_put_same (h1.isMap) (isKey _)]
      simp
    · rw [if_neg e, atKey_put_other (by simp; omega), h2 i hi]
  · unfold bump
    by_cases e : i = k
    · subst e
      rw [if_pos rfl, has_put_same (h1.isMap) (isKey _)]
      simp
    · rw [if_neg e, has_put_other (by simp; omega), h3 i hi]
  · rw [size_put (h1.tidy K), h3 k hk, h4]
    by_cases e : f k = 0 <;> simp [e]

theorem wpList_clook {w : World} {ops : Array Oper} {rest : List Oper} {o : Oper} {a : Act} {Q : Exit → Act → World → Prop} (hg : o.guard = none) (m x : Operand)
    (hop : o.op = Op.lookup 40 m x false) {b N n c k : Nat} {f : Nat → Nat} (hm : a.eval m = .map (some b)) (hC : CMap w b N n f c) (hk : k < N) (hN : N ≤ 4611686018427387904) (hx : a.eval x = .int .i64 (k : Int)) {v : Int} (hv : (f k : Int) = v)
    (h : wpList Try.prog ops Q rest (a.put o.dst (.int .i64 v)) w) : wpList Try.prog ops Q (o :: rest) a w := by
  obtain ⟨D, h1, h2, h3, h4⟩ := hC
  refine wpList_lookup_own_int _ hg m x 40 hop 3 3 .i64 (int_keyed Try.underlying3) Try.underlying40 Try.underlying3 (zero3 _) b n D hm h1 _ _ hx (keyOf_int_mk Try.underlying3 (WalkArith.wf_i64 (by omega))) ?_
  intro c' hat _
  rw [h2 k hk] at hat
  injection hat with hat
  injection hat with _ hat
  rw [← hat, hv]
  exact h

theorem wpList_cput {w : World} {ops : Array Oper} {rest : List Oper} {o : Oper} {a : Act} {Q : Exit → Act → World → Prop} (hg : o.guard = none) (m x v : Operand)
    (hop : o.op = Op.mapUpdate 40 m x v) {b N n c k : Nat} {f : Nat → Nat} (hm : a.eval m = .map (some b)) (hC : CMap w b N n f c) (hk : k < N) (hN : N ≤ 4611686018427387904) (hn : n ≤ 4611686018427387904)
    (hf : f k ≤ 4611686018427387904) (hx : a.eval x = .int .i64 (k : Int)) (hv : a.eval v = .int .i64 ((f k : Int) + 1))
    (h : ∀ w', CMap w' b N (n + 1) (bump f k) (if f k = 0 then c + 1 else c) → w.grownBy w' (some b) → wpList Try.prog ops Q rest (a.put o.dst undef) w') : wpList Try.prog ops Q (o :: rest) a w := by
  obtain ⟨D, h1, h2, h3, h4⟩ := hC
  refine wpList_mapUpdate_own _ hg m x v 40 hop 3 3 (int_keyed Try.underlying3) Try.underlying40 _ b n D hm h1 (by unfold maxLen; omega) _ _ _ hx hv (keyOf_int_mk Try.underlying3 (WalkArith.wf_i64 (by omega))) _ []
    (plainElem_int Try.underlying3 (WalkArith.wf_i64 (by omega))) ?_
  intro w1 ho hg1
  exact h w1 (CMap.put h1 h2 h3 h4 hk ho) hg1

theorem wpList_clen {w : World} {ops : Array Oper} {rest : List Oper} {o : Oper} {a : Act} {Q : Exit → Act → World → Prop} (hg : o.guard = none) (m : Operand)
    (hop : o.op = Op.call { callee := Callee.builtin Builtin.len, args := #[m], argTypes := #[40] }) {b N n c : Nat} {f : Nat → Nat} (hm : a.eval m = .map (some b)) (hC : CMap w b N n f c)
    (h : wpList Try.prog ops Q rest (a.put o.dst (.int .i64 (c : Int))) w) : wpList Try.prog ops Q (o :: rest) a w := by
  obtain ⟨D, h1, h2, h3, h4⟩ := hC
  subst h4
  exact wpList_len_own _ hg m 40 hop _ _ Try.underlying40 _ b n D hm h1 h

/-! ### the plain law of the round -/
def off (sl : List (Int × Int)) (i : Nat) : Int := ((sl.take i).map (·.2)).sum

theorem off_zero (sl : List (Int × Int)) : off sl 0 = 0 := by simp [off]
theorem off_succ (sl : List (Int × Int)) (i : Nat) (h : i < sl.length) : off sl (i + 1) = off sl i + sl[i].2 := by
  unfold off
  rw [List.take_succ_eq_append_getElem h, List.map_append, List.sum_append]
  simp
theorem off_mono (sl : List (Int × Int)) (hp : ∀ k (hk : k < sl.length), 1 ≤ sl[k].2) (i d : Nat) (h : i + d ≤ sl.length) : off sl i + d ≤ off sl (i + d) := by
  induction d with
  | zero => simp
  | succ d ih =>
    have := ih (by omega)
    rw [show i + (d + 1) = i + d + 1 from rfl, off_succ sl (i + d) (by omega)]
    have := hp (i + d) (by omega)
    omega
theorem off_lt (sl : List (Int × Int)) (hp : ∀ k (hk : k < sl.length), 1 ≤ sl[k].2) (i j : Nat) (h : i < j) (hj : j ≤ sl.length) : off sl i + (sl[i]'(by omega)).2 ≤ off sl j := by
  have h1 := off_succ sl i (by omega)
  have h2 := off_mono sl hp (i + 1) (j - (i + 1)) (by omega)
  rw [show i + 1 + (j - (i + 1)) = j by omega] at h2
  omega

/-- Which slots have begun when j ticks are over, from phase p0 on. -/
def beg (sl : List (Int × Int)) (p0 : Int) (j : Nat) (i : Nat) : Nat := if (p0 < off sl i ∧ off sl i ≤ p0 + j) ∨ off sl i + off sl sl.length ≤ p0 + j then 1 else 0

theorem getD_at (sl : List (Int × Int)) (s : Nat) (hs : s < sl.length) : sl.getD s (0, 0) = sl[s] := by simp [List.getD, hs]

/-- The clock's phase when j ticks are over. -/
def Phase (sl : List (Int × Int)) (p0 : Int) (j s : Nat) (left : Int) : Prop :=
  off sl s + (sl.getD s (0, 0)).2 - left = p0 + j ∨ off sl s + (sl.getD s (0, 0)).2 - left = p0 + j - off sl sl.length

section
variable {sl : List (Int × Int)} (hp : ∀ k (hk : k < sl.length), 1 ≤ sl[k].2) {p0 : Int} (h0 : 0 ≤ p0) (h1 : p0 < off sl sl.length) {j s : Nat} {left : Int} (hs : s < sl.length) (hl' : left ≤ sl[s].2) (hj : j < off sl sl.length)
include hp h0 h1 hs hl' hj

theorem phase_on (hP : Phase sl p0 j s left) (h2 : 1 < left) : Phase sl p0 (j + 1) s (left - 1) ∧ ∀ i, i < sl.length → beg sl p0 (j + 1) i = beg sl p0 j i := by
  unfold Phase at *
  rw [getD_at _ _ hs] at *
  have ha := off_lt sl hp s sl.length hs (Nat.le_refl _)
  have hs0 : 0 ≤ off sl s := by have := off_mono sl hp 0 s (by omega); rw [off_zero] at this; simp at this; omega
  refine ⟨by omega, fun i hi => ?_⟩
  have hi0 : 0 ≤ off sl i := by have := off_mono sl hp 0 i (by omega); rw [off_zero] at this; simp at this; omega
  have hia := off_lt sl hp i sl.length hi (Nat.le_refl _)
  have hpi := hp i hi
  have hcmp : off sl i ≤ off sl s ∨ off sl s + sl[s].2 ≤ off sl i := by
    rcases Nat.lt_trichotomy i s with h | h | h
    · left; have := off_lt sl hp i s h (by omega); omega
    · left; rw [h]; omega
    · right; exact off_lt sl hp s i h (by omega)
  unfold beg
  have : ((p0 < off sl i ∧ off sl i ≤ p0 + ((j + 1 : Nat) : Int)) ∨ off sl i + off sl sl.length ≤ p0 + ((j + 1 : Nat) : Int)) ↔ ((p0 < off sl i ∧ off sl i ≤ p0 + (j : Int)) ∨ off sl i + off sl sl.length ≤ p0 + (j : Int)) := by
    omega
  simp only [this]

theorem phase_next (hP : Phase sl p0 j s 1) {k : Nat} (hk : k < sl.length) (hk' : (s + 1) % sl.length = k) (h2 : left = 1) :
    Phase sl p0 (j + 1) k sl[k].2 ∧ beg sl p0 j k = 0 ∧ beg sl p0 (j + 1) k = 1 ∧ ∀ i, i < sl.length → i ≠ k → beg sl p0 (j + 1) i = beg sl p0 j i := by
  unfold Phase at *
  rw [getD_at _ _ hs] at hP
  rw [getD_at _ _ hk]
  have ha := off_lt sl hp s sl.length hs (Nat.le_refl _)
  have hs0 : 0 ≤ off sl s := by have := off_mono sl hp 0 s (by omega); rw [off_zero] at this; simp at this; omega
  have hk0 : 0 ≤ off sl k := by have := off_mono sl hp 0 k (by omega); rw [off_zero] at this; simp at this; omega
  have hka := off_lt sl hp k sl.length hk (Nat.le_refl _)
  have hpk := hp k hk
  have hw : (k = s + 1 ∧ off sl k = off sl s + sl[s].2) ∨ (k = 0 ∧ s + 1 = sl.length ∧ off sl k = 0 ∧ off sl sl.length = off sl s + sl[s].2) := by
    by_cases h : s + 1 < sl.length
    · left; rw [Nat.mod_eq_of_lt h] at hk'; subst hk'; exact ⟨rfl, off_succ sl s hs⟩
    · right
      have : s + 1 = sl.length := by omega
      rw [this, Nat.mod_self] at hk'; subst hk'
      exact ⟨rfl, this, off_zero sl, by rw [← this]; exact off_succ sl s hs⟩
  have hbeg : ∀ i, i < sl.length → (beg sl p0 (j + 1) i = beg sl p0 j i ∨ off sl i = off sl k) := by
    intro i hi
    have hi0 : 0 ≤ off sl i := by have := off_mono sl hp 0 i (by omega); rw [off_zero] at this; simp at this; omega
    have hia := off_lt sl hp i sl.length hi (Nat.le_refl _)
    have hpi := hp i hi
    by_cases h : off sl i = off sl k
    · exact .inr h
    · left
      unfold beg
      have : ((p0 < off sl i ∧ off sl i ≤ p0 + ((j + 1 : Nat) : Int)) ∨ off sl i + off sl sl.length ≤ p0 + ((j + 1 : Nat) : Int)) ↔ ((p0 < off sl i ∧ off sl i ≤ p0 + (j : Int)) ∨ off sl i + off sl sl.length ≤ p0 + (j : Int)) := by
        rcases hw with ⟨h3, h4⟩ | ⟨h3, h4, h5, h6⟩ <;> omega
      simp only [this]
  refine ⟨by rcases hw with ⟨h3, h4⟩ | ⟨h3, h4, h5, h6⟩ <;> omega, ?_, ?_, fun i hi hne => ?_⟩
  · unfold beg; rw [if_neg]; rcases hw with ⟨h3, h4⟩ | ⟨h3, h4, h5, h6⟩ <;> omega
  · unfold beg; rw [if_pos]; rcases hw with ⟨h3, h4⟩ | ⟨h3, h4, h5, h6⟩ <;> omega
  · rcases hbeg i hi with h | h
    · exact h
    · exfalso
      rcases Nat.lt_or_gt_of_ne hne with h' | h'
      · have := off_lt sl hp i k h' (by omega); have := hp i hi; omega
      · have := off_lt sl hp k i h' (by omega); omega
end

theorem beg_zero (sl : List (Int × Int)) (p0 : Int) (hp : ∀ k (hk : k < sl.length), 1 ≤ sl[k].2) (h1 : p0 < off sl sl.length) (i : Nat) (hi : i < sl.length) : beg sl p0 0 i = 0 := by
  have hi0 : 0 ≤ off sl i := by have := off_mono sl hp 0 i (by omega); rw [off_zero] at this; simp at this; omega
  unfold beg; rw [if_neg]; simp; omega
theorem beg_all (sl : List (Int × Int)) (p0 : Int) (hp : ∀ k (hk : k < sl.length), 1 ≤ sl[k].2) (N : Nat) (hN : (N : Int) = off sl sl.length) (h0 : 0 ≤ p0) (i : Nat) (hi : i < sl.length) : beg sl p0 N i = 1 := by
  have hia := off_lt sl hp i sl.length hi (Nat.le_refl _)
  have := hp i hi
  unfold beg; rw [if_pos]; omega

def sumf (f : Nat → Nat) (n : Nat) : Nat := ((List.range n).map f).sum
theorem sumf_succ (f : Nat → Nat) (n : Nat) : sumf f (n + 1) = sumf f n + f n := by simp [sumf, List.range_succ]
theorem sumf_congr (f g : Nat → Nat) (n : Nat) (h : ∀ i, i < n → f i = g i) : sumf f n = sumf g n := by
  induction n with
  | zero => rfl
  | succ n ih => rw [sumf_succ, sumf_succ, ih (fun i hi => h i (by omega)), h n (by omega)]
theorem sumf_const (f : Nat → Nat) (n c : Nat) (h : ∀ i, i < n → f i = c) : sumf f n = c * n := by
  induction n with
  | zero => rfl
  | succ n ih => rw [sumf_succ, ih (fun i hi => h i (by omega)), h n (by omega), Nat.mul_succ]
theorem sumf_bump (f : Nat → Nat) (n k : Nat) (hk : k < n) : sumf (bump f k) n = sumf f n + 1 := by
  induction n with
  | zero => omega
  | succ n ih =>
    rw [sumf_succ, sumf_succ]
    by_cases e : k = n
    · subst e
      rw [sumf_congr (bump f k) f k (fun i hi => by unfold bump; rw [if_neg (by omega)])]
      unfold bump; rw [if_pos rfl]; omega
    · rw [ih (by omega)]
      unfold bump; rw [if_neg (by omega)]; omega

/-- Whose turns have been when j turns are over, from r0 on, of n. -/
def had (r0 n j i : Nat) : Nat := if (r0 ≤ i ∧ i < r0 + j) ∨ i + n < r0 + j then 1 else 0
theorem had_step (r0 n j : Nat) (hr : r0 < n) (hj : j < n) {k : Nat} (hk : (r0 + j) % n = k) : k < n ∧ had r0 n j k = 0 ∧ ∀ i, i < n → had r0 n (j + 1) i = bump (had r0 n j) k i := by
  have hw : (r0 + j < n ∧ k = r0 + j) ∨ (n ≤ r0 + j ∧ k = r0 + j - n) := by
    by_cases h : r0 + j < n
    · left; rw [Nat.mod_eq_of_lt h] at hk; omega
    · right
      rw [Nat.mod_eq_sub_mod (by omega), Nat.mod_eq_of_lt (by omega)] at hk
      omega
  have h0 : had r0 n j k = 0 := by unfold had; rw [if_neg]; omega
  refine ⟨by omega, h0, fun i hi => ?_⟩
  unfold bump
  rw [h0]
  by_cases e : i = k
  · rw [if_pos e]; unfold had; rw [if_pos]; omega
  · rw [if_neg e]; unfold had
    have : ((r0 ≤ i ∧ i < r0 + (j + 1)) ∨ i + n < r0 + (j + 1)) ↔ ((r0 ≤ i ∧ i < r0 + j) ∨ i + n < r0 + j) := by omega
    simp only [this]
theorem had_all (r0 n i : Nat) (hi : i < n) : had r0 n n i = 1 := by unfold had; rw [if_pos]; omega
theorem had_zero (r0 n i : Nat) (hr : r0 < n) : had r0 n 0 i = 0 := by unfold had; rw [if_neg]; omega

end Go.Proofs.Ytbohhabnejmemaa
