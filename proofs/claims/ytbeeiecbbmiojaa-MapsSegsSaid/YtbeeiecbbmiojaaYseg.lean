/- Yseg: what the segments of maps are -/
import Derived.Test.YtbeeiecbbmiojaaYruns
import Derived.Test.YtbeeiecbbmiojaaYord4
import Derived.Test.YtbeeiecbbmiojaaYassoc
namespace Go.Proofs.Ytbeeiecbbmiojaa.Y
open Go.RowKit Go.ChangeShapes Go.WideShapes Go.ChangeAt

/-- How many are ahead of a number. -/
def posU (l : List Int) (x : Int) : Nat := (l.takeWhile fun y => decide (y < x)).length
def insS (l : List Int) (x : Int) : List Int := if x ∈ l then l else l.take (posU l x) ++ x :: l.drop (posU l x)
def segsTo (l : List M) : Nat → List Int
  | 0 => []
  | i + 1 => insS (segsTo l i) (l.getD i noM).sg
theorem posU_split (l : List Int) (x : Int) : ∃ p r, l = p ++ r ∧ posU l x = p.length ∧ (∀ y ∈ p, y < x) ∧ (∀ y, r.head? = some y → x ≤ y) := by
  refine ⟨l.takeWhile fun m => decide (m < x), l.dropWhile fun m => decide (m < x), (List.takeWhile_append_dropWhile).symm, rfl, fun y hy => ?_, fun y hy => ?_⟩
  · have : ∀ {l : List Int}, y ∈ l.takeWhile (fun m => decide (m < x)) → y < x := by
      intro l
      induction l with
      | nil => intro h; cases h
      | cons m t ih =>
        intro h
        rw [List.takeWhile_cons] at h
        split at h
        · rename_i hm
          rcases List.mem_cons.1 h with rfl | h
          · simpa using hm
          · exact ih h
        · cases h
    exact this hy
  · have : ∀ {l : List Int}, (l.dropWhile fun m => decide (m < x)).head? = some y → x ≤ y := by
      intro l
      induction l with
      | nil => intro h; cases h
      | cons m t ih =>
        intro h
        rw [List.dropWhile_cons] at h
        split at h
        · exact ih h
        · rename_i hm
          have : m = y := by simpa using h
          subst this
          simpa using hm
    exact this hy
theorem posU_le (l : List Int) (x : Int) : posU l x ≤ l.length := by unfold posU; exact (List.takeWhile_sublist _).length_le
theorem rest_ge {r : List Int} {x : Int} (hs : r.Pairwise (· < ·)) (hh : ∀ y, r.head? = some y → x ≤ y) : ∀ y ∈ r, x ≤ y := fun y hy => by
  cases r with
  | nil => cases hy
  | cons z t =>
    have := hh z rfl
    rcases List.mem_cons.1 hy with rfl | hy
    · exact this
    · have := (List.pairwise_cons.1 hs).1 y hy; omega
theorem posU_iff {l : List Int} (hs : l.Pairwise (· < ·)) {x : Int} {h : Nat} (hh : h < l.length) : l[h] < x ↔ h < posU l x := by
  obtain ⟨p, r, rfl, hp, h1, h2⟩ := posU_split l x
  rw [List.pairwise_append] at hs
  rw [hp]
  by_cases hlt : h < p.length
  · rw [List.getElem_append_left hlt]
    exact ⟨fun _ => hlt, fun _ => h1 _ (List.getElem_mem hlt)⟩
  · rw [List.getElem_append_right (by omega)]
    have := rest_ge hs.2.1 h2 _ (List.getElem_mem (l := r) (n := h - p.length) (by simp at hh; omega))
    omega
theorem posU_mem {l : List Int} (hs : l.Pairwise (· < ·)) {x : Int} : (decide (posU l x < l.length) && (l.getD (posU l x) 0 == x)) = decide (x ∈ l) := by
  obtain ⟨p, r, rfl, hp, h1, h2⟩ := posU_split l x
  rw [List.pairwise_append] at hs
  rw [hp, Bool.eq_iff_iff, Bool.and_eq_true, decide_eq_true_eq, decide_eq_true_eq, beq_iff_eq, List.mem_append]
  cases r with
  | nil =>
    simp only [List.append_nil, List.not_mem_nil, or_false]
    constructor
    · rintro ⟨h, _⟩; exact absurd h (Nat.lt_irrefl _)
    · intro h; exact absurd (h1 x h) (by omega)
  | cons y t =>
    have e : (p ++ y :: t).getD p.length 0 = y := by simp [List.getD_eq_getElem?_getD]
    rw [e]
    have hy := h2 y rfl
    constructor
    · rintro ⟨_, rfl⟩; exact .inr List.mem_cons_self
    · rintro (h | h)
      · exact absurd (h1 x h) (by omega)
      · rcases List.mem_cons.1 h with rfl | h
        · exact ⟨by simp, rfl⟩
        · have := (List.pairwise_cons.1 hs.2.1).1 x h; omega
theorem insS_mem (l : List Int) (x y : Int) : y ∈ insS l x ↔ y ∈ l ∨ y = x := by
  unfold insS
  split
  · rename_i h
    constructor
    · exact .inl
    · rintro (h | rfl)
      · exact h
      · assumption
  · rw [List.mem_append, List.mem_cons]
    constructor
    · rintro (h | h | h)
      · exact .inl (List.mem_of_mem_take h)
      · exact .inr h
      · exact .inl (List.mem_of_mem_drop h)
    · rintro (h | h)
      · rw [← List.take_append_drop (posU l x) l, List.mem_append] at h
        rcases h with h | h
        · exact .inl h
        · exact .inr (.inr h)
      · exact .inr (.inl h)
theorem insS_sorted {l : List Int} (hs : l.Pairwise (· < ·)) (x : Int) : (insS l x).Pairwise (· < ·) := by
  unfold insS
  split
  · exact hs
  · rename_i hx
    obtain ⟨p, r, rfl, hp, h1, h2⟩ := posU_split l x
    rw [hp, List.take_left, List.drop_left]
    rw [List.pairwise_append] at hs ⊢
    have hr := rest_ge hs.2.1 h2
    have hr' : ∀ y ∈ r, x < y := fun y hy => by
      have := hr y hy
      have : x ≠ y := fun e => hx (by rw [e]; exact List.mem_append_right _ hy)
      omega
    exact ⟨hs.1, List.pairwise_cons.2 ⟨hr', hs.2.1⟩, fun a ha b hb => by
      rcases List.mem_cons.1 hb with rfl | hb
      · exact h1 a ha
      · exact hs.2.2 a ha b hb⟩
theorem insS_len (l : List Int) (x : Int) : (insS l x).length ≤ l.length + 1 := by
  unfold insS
  split
  · omega
  · have := posU_le l x; simp; omega
theorem segs_sorted (l : List M) : ∀ i, (segsTo l i).Pairwise (· < ·)
  | 0 => List.Pairwise.nil
  | i + 1 => insS_sorted (segs_sorted l i) _
theorem segs_len (l : List M) : ∀ i, (segsTo l i).length ≤ i
  | 0 => Nat.le_refl _
  | i + 1 => by have := segs_len l i; have := insS_len (segsTo l i) (l.getD i noM).sg; simp only [segsTo]; omega
theorem segs_mem (l : List M) (y : Int) : ∀ i, y ∈ segsTo l i ↔ ∃ j, j < i ∧ (l.getD j noM).sg = y
  | 0 => by simp [segsTo]
  | i + 1 => by
    rw [segsTo, insS_mem, segs_mem l y i]
    constructor
    · rintro (⟨j, h1, h2⟩ | h)
      · exact ⟨j, by omega, h2⟩
      · exact ⟨i, by omega, h.symm⟩
    · rintro ⟨j, h1, h2⟩
      rcases Nat.lt_or_ge j i with h3 | h3
      · exact .inl ⟨j, h3, h2⟩
      · obtain rfl : j = i := by omega
        exact .inr h2.symm
/-- The segments that were seen. -/
def seenTo (l : List M) : Nat → List (Int × Value)
  | 0 => []
  | i + 1 => putA (seenTo l i) (l.getD i noM).sg (.bool true)
theorem seen_keys (l : List M) (y : Int) : ∀ i, y ∈ (seenTo l i).map (·.1) ↔ ∃ j, j < i ∧ (l.getD j noM).sg = y
  | 0 => by simp [seenTo]
  | i + 1 => by
    have ih := seen_keys l y i
    rw [seenTo, putA_keys]
    have key : y ∈ (if (l.getD i noM).sg ∈ (seenTo l i).map (·.1) then (seenTo l i).map (·.1) else (seenTo l i).map (·.1) ++ [(l.getD i noM).sg]) ↔ y ∈ (seenTo l i).map (·.1) ∨ y = (l.getD i noM).sg := by
      split
      · rename_i h
        constructor
        · exact .inl
        · rintro (h' | rfl)
          · exact h'
          · exact h
      · rw [List.mem_append, List.mem_singleton]
    rw [key, ih]
    constructor
    · rintro (⟨j, h1, h2⟩ | h)
      · exact ⟨j, by omega, h2⟩
      · exact ⟨i, by omega, h.symm⟩
    · rintro ⟨j, h1, h2⟩
      rcases Nat.lt_or_ge j i with h3 | h3
      · exact .inl ⟨j, h3, h2⟩
      · obtain rfl : j = i := by omega
        exact .inr h2.symm
theorem seen_nodup (l : List M) : ∀ i, ((seenTo l i).map (·.1)).Nodup
  | 0 => List.nodup_nil
  | i + 1 => by
    rw [seenTo, putA_keys]
    split
    · exact seen_nodup l i
    · rename_i h
      rw [List.nodup_append]
      refine ⟨seen_nodup l i, by simp, fun a ha b hb e => ?_⟩
      rw [List.mem_singleton.1 hb] at e
      exact h (e ▸ ha)
theorem seen_true (l : List M) : ∀ i, ∀ p ∈ seenTo l i, p.2 = .bool true
  | 0, p, h => by cases h
  | i + 1, p, h => by
    rw [seenTo, putA] at h
    split at h
    · obtain ⟨q, hq, rfl⟩ := List.mem_map.1 h
      split
      · rfl
      · exact seen_true l i q hq
    · rcases List.mem_append.1 h with h | h
      · exact seen_true l i p h
      · rw [List.mem_singleton.1 h]
theorem seen_look {l : List M} {i : Nat} {y : Int} (h : y ∈ (seenTo l i).map (·.1)) : ((seenTo l i).lookup y).getD (.bool false) = .bool true := by
  obtain ⟨⟨a, v⟩, hp, rfl⟩ := List.mem_map.1 h
  obtain ⟨j, hj, e⟩ := List.getElem_of_mem hp
  have := lookup_at (seen_nodup l i) (j := j) (x := a) (v := v) (by rw [List.getElem?_eq_getElem hj, e])
  rw [this]
  exact seen_true l i _ hp
theorem seen_len (l : List M) (i : Nat) : (seenTo l i).length = (segsTo l i).length := by
  have h1 : ((seenTo l i).map (·.1)).Perm (segsTo l i) := (List.perm_ext_iff_of_nodup (seen_nodup l i) ((segs_sorted l i).imp (fun h => by omega))).2 fun y => by rw [seen_keys, segs_mem]
  simpa using h1.length_eq
theorem seg_quiet {S : List Int} {i : Nat} {s : Int} (hs : S.Pairwise (· < ·)) (h : S[i]? = some s) : (!true || (decide ((0 : Int) < (i : Int)) && decide (s ≤ S.getD (i - 1) 0))) = false := by
  simp only [Bool.not_true, Bool.false_or, Bool.and_eq_false_iff, decide_eq_false_iff_not]
  by_cases h0 : i = 0
  · left; omega
  · right
    obtain ⟨hi, rfl⟩ := List.getElem?_eq_some_iff.1 h
    have := List.pairwise_iff_getElem.1 hs (i - 1) i (by omega) hi (by omega)
    rw [show S.getD (i - 1) 0 = S[i - 1] by simp [List.getD_eq_getElem?_getD, show i - 1 < S.length by omega]]
    omega
theorem take_atS {W : List M} {i : Nat} {y : M} (h : W[i]? = some y) : W.take (i + 1) = W.take i ++ [y] := by
  obtain ⟨hi, rfl⟩ := List.getElem?_eq_some_iff.1 h
  rw [List.take_succ_eq_append_getElem hi]
theorem while_self {f : M → Bool} : ∀ {l : List M}, (∀ m ∈ l, f m = true) → l.takeWhile f = l
  | [], _ => rfl
  | m :: t, h => by rw [List.takeWhile_cons, if_pos (h m List.mem_cons_self), while_self fun x hx => h x (List.mem_cons_of_mem _ hx)]
def thereTo (l : List M) (q : Int) (i : Nat) : Bool := (l.take i).any fun m => m.pa == q
theorem there_step {l : List M} {q : Int} {i : Nat} {m : M} (h : l[i]? = some m) : (thereTo l q i || (m.pa == q)) = thereTo l q (i + 1) := by
  unfold thereTo
  rw [take_atS h, List.any_append]
  simp
theorem seg_law {l : List M} {q : Int} (hl : l.length ≤ 40) (hr : rightB l = true) : ((((segsTo l l.length).length : Int) == ((seenTo l l.length).length : Int)) && (thereTo l q l.length || (((remM l q).2 == 2) && (((remM l q).1.length : Int) == 0))) && (!thereTo l q l.length || (((remM l q).2 == 0) && (((remM l q).1.length : Int) == IntKind.i64.wrap ((l.length : Int) - 1))))) = true := by
  rw [seen_len]
  unfold rightB at hr
  rw [Bool.and_eq_true] at hr
  have ok := okM_of hr.1
  cases ht : thereTo l q l.length with
  | true =>
    unfold thereTo at ht
    rw [List.take_length, List.any_eq_true] at ht
    obtain ⟨m, hm, hq⟩ := ht
    have hq : m.pa = q := by simpa using hq
    obtain ⟨h1, h2⟩ := rem_away ok ⟨m, hm, hq⟩
    rw [h1]
    have : IntKind.i64.wrap ((l.length : Int) - 1) = ((awayL l q).length : Int) := by rw [IntKind.wrap_i64]; omega
    rw [this]
    simp
  | false =>
    have hn : idxR l q = l.length := by
      unfold idxR
      rw [while_self]
      intro m hm
      unfold thereTo at ht
      rw [List.take_length, List.any_eq_false] at ht
      simpa using ht m hm
    have : remM l q = ([], 2) := by unfold remM; rw [if_neg (by omega)]
    rw [this]
    simp
theorem prevS {S : List Int} {i : Nat} (hl : S.length ≤ 1000000) (hi : i < S.length) (h : decide ((0 : Int) < (i : Int)) = true) : 0 ≤ IntKind.i64.wrap ((i : Int) - 1) ∧ S[(IntKind.i64.wrap ((i : Int) - 1)).toNat]? = some (S.getD (i - 1) 0) := by
  have h : 0 < i := by simpa using h
  have e : IntKind.i64.wrap ((i : Int) - 1) = ((i - 1 : Nat) : Int) := by rw [IntKind.wrap_i64]; omega
  rw [e]
  refine ⟨by omega, ?_⟩
  simp [List.getD_eq_getElem?_getD, show i - 1 < S.length by omega]

end Go.Proofs.Ytbeeiecbbmiojaa.Y
