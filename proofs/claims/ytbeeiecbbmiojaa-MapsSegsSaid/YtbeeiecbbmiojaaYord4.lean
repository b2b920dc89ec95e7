/- Yord4: more for MapsOrder -/
import Derived.Test.YtbeeiecbbmiojaaYord3
namespace Go.Proofs.Ytbeeiecbbmiojaa.Y
open Go.RowKit Go.ChangeShapes Go.WideShapes Go.ChangeAt

/-- The page that a map is moved to. -/
theorem mv_is (m : M) (i : Nat) (hi : i ≤ 16) : ({ m with pa := IntKind.i64.wrap (bits .and .i64 m.pa 15 + IntKind.i64.wrap (40 * (i : Int))) } : M) = mvM m i := by rw [mv_pa m i hi]; rfl
theorem turn_is (q : Int) {n : Nat} (h : 0 < n) (h2 : n ≤ 16) : ∃ t : Nat, t < n ∧ (IntKind.i64.wrap (q.tmod n + n)).tmod n = (t : Int) := by
  have h3 : (0 : Int) < n := by omega
  have h4 := Int.tmod_lt_of_pos q h3
  have h5 : -(n : Int) < q.tmod n := Int.lt_tmod_of_pos q h3
  have e : IntKind.i64.wrap (q.tmod n + n) = q.tmod n + n := by rw [IntKind.wrap_i64]; omega
  rw [e]
  have h6 : 0 ≤ (q.tmod n + n).tmod n := Int.tmod_nonneg _ (by omega)
  have h7 := Int.tmod_lt_of_pos (q.tmod n + n) h3
  exact ⟨((q.tmod n + n).tmod n).toNat, by omega, by omega⟩
theorem turnK_is {l : List M} {t i : Nat} (ht : t < l.length) (hi : i < l.length) (hl : l.length ≤ 16) : (IntKind.i64.wrap ((i : Int) + (t : Int))).tmod (l.length : Int) = ((turnK l t i : Nat) : Int) := by
  have e : IntKind.i64.wrap ((i : Int) + (t : Int)) = ((t + i : Nat) : Int) := by rw [IntKind.wrap_i64]; omega
  rw [e, Int.tmod_eq_emod_of_nonneg (by omega)]
  unfold turnK
  split
  · rw [Int.emod_eq_of_lt (by omega) (by omega)]
  · rw [show ((t + i : Nat) : Int) = ((t + i - l.length : Nat) : Int) + (l.length : Int) * 1 by omega, Int.add_mul_emod_self_left, Int.emod_eq_of_lt (by omega) (by omega)]
theorem turnK_lt {l : List M} {t i : Nat} (ht : t < l.length) (hi : i < l.length) : turnK l t i < l.length := by unfold turnK; split <;> omega
theorem ordB_len {l : List M} {t i : Nat} (ht : t < l.length) : (ordB l t i).length = i := by
  unfold ordB
  split
  · rw [mvs_len]; omega
  · rw [List.length_append, mvs_len, mvs_len]; omega
theorem add_unfit {l : List M} {m : M} (h : fitsB m = false) : (addM l m).2 = 1 := by unfold addM; rw [if_pos h]
theorem ord_good {l : List M} {t i : Nat} (hA : okA l i) (hB : okB l t i) (hl : l.length ≤ 16) (ht : t < l.length) (hi : i < l.length) (h : ((addM (mvs l 0 i) (placed l i)).2 != 0 || (addM (ordB l t i) (placed l (turnK l t i))).2 != 0) = false) :
    fitsB (placed l i) = true ∧ fitsB (placed l (turnK l t i)) = true ∧ addM (mvs l 0 i) (placed l i) = (mvs l 0 (i + 1), 0) ∧ addM (ordB l t i) (placed l (turnK l t i)) = (ordB l t (i + 1), 0) := by
  rw [Bool.or_eq_false_iff] at h
  have f1 : fitsB (placed l i) = true := by
    cases hf : fitsB (placed l i) with
    | true => rfl
    | false => rw [add_unfit hf] at h; exact absurd h.1 (by decide)
  have f2 : fitsB (placed l (turnK l t i)) = true := by
    cases hf : fitsB (placed l (turnK l t i)) with
    | true => rfl
    | false => rw [add_unfit hf] at h; exact absurd h.2 (by decide)
  exact ⟨f1, f2, stepA hl hi hA f1, stepB hl ht hi hB f2⟩
theorem ord_bad {l : List M} {t i : Nat} (hA : okA l i) (hB : okB l t i) (hl : l.length ≤ 16) (ht : t < l.length) (hi : i < l.length) (h : ((addM (mvs l 0 i) (placed l i)).2 != 0 || (addM (ordB l t i) (placed l (turnK l t i))).2 != 0) = true) :
    (((addM (mvs l 0 i) (placed l i)).2 != 0 && !fitsB (placed l i)) || ((addM (ordB l t i) (placed l (turnK l t i))).2 != 0 && !fitsB (placed l (turnK l t i)))) = true := by
  cases f1 : fitsB (placed l i) with
  | false => rw [add_unfit f1]; rfl
  | true =>
    cases f2 : fitsB (placed l (turnK l t i)) with
    | false => rw [add_unfit f2]; simp
    | true =>
      rw [stepA hl hi hA f1, stepB hl ht hi hB f2] at h
      cases h
theorem at_getD {l : List M} {i : Nat} (h : i < l.length) : l[i]? = some (l.getD i noM) := by simp [List.getD_eq_getElem?_getD, h]

end Go.Proofs.Ytbeeiecbbmiojaa.Y
