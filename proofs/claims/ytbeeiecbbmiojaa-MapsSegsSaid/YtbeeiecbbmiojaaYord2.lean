/- What the rounds of MapsOrder make. -/
import Derived.Test.YtbeeiecbbmiojaaYord
namespace Go.Proofs.Ytbeeiecbbmiojaa.Y
open Go.RowKit

/-- What the second has behind i rounds. -/
def ordB (l : List M) (t i : Nat) : List M := if t + i ≤ l.length then mvs l t (t + i) else mvs l 0 (t + i - l.length) ++ mvs l t l.length
def placed (l : List M) (j : Nat) : M := mvM (l.getD j noM) j
def okA (l : List M) (i : Nat) : Prop := ∀ j, j < i → fitsB (placed l j) = true
def turnK (l : List M) (t i : Nat) : Nat := if t + i < l.length then t + i else t + i - l.length
def okB (l : List M) (t i : Nat) : Prop := ∀ j, j < i → fitsB (placed l (turnK l t j)) = true
theorem okA_succ {l : List M} {i : Nat} (h : okA l i) (h2 : fitsB (placed l i) = true) : okA l (i + 1) := fun j hj => by
  rcases Nat.lt_or_ge j i with h1 | h1
  · exact h j h1
  · obtain rfl : j = i := by omega
    exact h2
theorem okB_succ {l : List M} {t i : Nat} (h : okB l t i) (h2 : fitsB (placed l (turnK l t i)) = true) : okB l t (i + 1) := fun j hj => by
  rcases Nat.lt_or_ge j i with h1 | h1
  · exact h j h1
  · obtain rfl : j = i := by omega
    exact h2
theorem stepA {l : List M} {i : Nat} (hl : l.length ≤ 16) (hi : i < l.length) (ho : okA l i) (hf : fitsB (placed l i) = true) : addM (mvs l 0 i) (placed l i) = (mvs l 0 (i + 1), 0) := by
  have := add_mid (p := mvs l 0 i) (r := []) (x := placed l i) (fun y hy => by
    obtain ⟨j, _, h2, rfl⟩ := mem_mvs hy
    have h3 : fitsB (mvM (l.getD j noM) j) = true := ho j h2
    exact ⟨h3, mv_lt h2 h3⟩) (fun y hy => by cases hy) hf (by rw [List.append_nil, mvs_len]; omega)
  rw [List.append_nil] at this
  rw [this, mvs_snoc l (Nat.zero_le i)]
  rfl
theorem stepB {l : List M} {t i : Nat} (hl : l.length ≤ 16) (ht : t < l.length) (hi : i < l.length) (ho : okB l t i) (hf : fitsB (placed l (turnK l t i)) = true) : addM (ordB l t i) (placed l (turnK l t i)) = (ordB l t (i + 1), 0) := by
  by_cases h : t + i < l.length
  · have e : turnK l t i = t + i := if_pos h
    have e1 : ordB l t i = mvs l t (t + i) := if_pos (by omega)
    have e2 : ordB l t (i + 1) = mvs l t (t + i + 1) := if_pos (by omega)
    rw [e] at hf ⊢
    rw [e1, e2]
    have := add_mid (p := mvs l t (t + i)) (r := []) (x := placed l (t + i)) (fun y hy => by
      obtain ⟨j, h1, h2, rfl⟩ := mem_mvs hy
      have h3 : fitsB (mvM (l.getD j noM) j) = true := by
        have := ho (j - t) (by omega)
        unfold turnK at this
        rw [if_pos (by omega), show t + (j - t) = j by omega] at this
        exact this
      exact ⟨h3, mv_lt h2 h3⟩) (fun y hy => by cases hy) hf (by rw [List.append_nil, mvs_len]; omega)
    rw [List.append_nil] at this
    rw [this, mvs_snoc l (Nat.le_add_right t i)]
    rfl
  · obtain ⟨k, hk⟩ : ∃ k, t + i = l.length + k := ⟨t + i - l.length, by omega⟩
    have e : turnK l t i = k := by unfold turnK; rw [if_neg h]; omega
    have e1 : ordB l t i = mvs l 0 k ++ mvs l t l.length := by
      unfold ordB
      by_cases h2 : t + i ≤ l.length
      · rw [if_pos h2, show k = 0 by omega, show t + i = l.length by omega]; rfl
      · rw [if_neg h2, show t + i - l.length = k by omega]
    have e2 : ordB l t (i + 1) = mvs l 0 (k + 1) ++ mvs l t l.length := by
      unfold ordB
      rw [if_neg (by omega), show t + (i + 1) - l.length = k + 1 by omega]
    rw [e] at hf ⊢
    rw [e1, e2]
    rw [add_mid (p := mvs l 0 k) (r := mvs l t l.length) (x := placed l k) (fun y hy => by
      obtain ⟨j, _, h2, rfl⟩ := mem_mvs hy
      have h3 : fitsB (mvM (l.getD j noM) j) = true := by
        have := ho (j + l.length - t) (by omega)
        unfold turnK at this
        rw [if_neg (by omega), show t + (j + l.length - t) - l.length = j by omega] at this
        exact this
      exact ⟨h3, mv_lt h2 h3⟩) (fun y hy => by
      obtain ⟨j, h1, h2, rfl⟩ := mem_mvs hy
      exact (mv_lt (l := l) (j := k) (k := j) (by omega) hf).2) hf (by rw [List.length_append, mvs_len, mvs_len]; omega), mvs_snoc l (Nat.zero_le k), List.append_assoc]
    rfl
theorem ordB_end {l : List M} {t : Nat} (ht : t < l.length) : ordB l t l.length = mvs l 0 l.length := by
  unfold ordB
  by_cases h : t + l.length ≤ l.length
  · rw [if_pos h, show t = 0 by omega, Nat.zero_add]
  · rw [if_neg h, show t + l.length - l.length = t by omega, mvs_join l (Nat.zero_le t) (by omega)]
end Go.Proofs.Ytbeeiecbbmiojaa.Y
