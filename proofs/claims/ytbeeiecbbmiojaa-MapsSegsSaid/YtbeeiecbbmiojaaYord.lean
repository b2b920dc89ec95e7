/- What Add makes of maps that are moved apart. -/
import Derived.Test.YtbeeiecbbmiojaaYback
import Derived.Test.YtbeeiecbbmiojaaYvar
import Derived.Test.YtbeeiecbbmiojaaBits
namespace Go.Proofs.Ytbeeiecbbmiojaa.Y
open Go.RowKit

theorem pos_mid {x : Int} {r : List M} (hr : ∀ y ∈ r, x ≤ y.pa) : ∀ {p : List M}, (∀ y ∈ p, y.pa < x) → posM (p ++ r) x = p.length
  | [], _ => by
    unfold posM
    rw [List.nil_append]
    cases r with
    | nil => rfl
    | cons y t =>
      have := hr y List.mem_cons_self
      rw [List.takeWhile_cons, if_neg (by simpa using this)]
  | y :: t, h => by
    have ih := pos_mid (x := x) hr (p := t) fun z hz => h z (List.mem_cons_of_mem _ hz)
    unfold posM at ih ⊢
    rw [List.cons_append, List.takeWhile_cons, if_pos (by simpa using h y List.mem_cons_self), List.length_cons, ih, List.length_cons]
theorem add_mid {p r : List M} {x : M} (hp : ∀ y ∈ p, fitsB y = true ∧ y.pa < x.pa ∧ y.pa + y.nn ≤ x.pa) (hr : ∀ y ∈ r, x.pa + x.nn ≤ y.pa) (hx : fitsB x = true) (hl : (p ++ r).length < 16) : addM (p ++ r) x = (p ++ x :: r, 0) := by
  have hf := hx
  unfold fitsB at hf
  rw [decide_eq_true_eq] at hf
  have hpos : posM (p ++ r) x.pa = p.length := pos_mid (fun y hy => by have := hr y hy; omega) fun y hy => (hp y hy).2.1
  have hc : clash (p ++ r) p.length x = false := by
    unfold clash
    rw [Bool.or_eq_false_iff, Bool.and_eq_false_iff, Bool.and_eq_false_iff]
    refine ⟨?_, ?_⟩
    · rcases Nat.eq_zero_or_pos p.length with h0 | h0
      · left; simp [h0]
      · right
        have hm : (p ++ r).getD (p.length - 1) noM ∈ p := by
          rw [List.getD_eq_getElem?_getD, List.getElem?_append_left (by omega), List.getElem?_eq_getElem (by omega)]
          exact List.getElem_mem _
        obtain ⟨a1, _, a3⟩ := hp _ hm
        rw [end_wrap a1]
        simp only [decide_eq_false_iff_not]
        omega
    · cases r with
      | nil => left; simp
      | cons y t =>
        right
        have := hr y List.mem_cons_self
        rw [end_wrap hx, show (p ++ y :: t).getD p.length noM = y by simp [List.getD_eq_getElem?_getD]]
        simp only [decide_eq_false_iff_not]
        omega
  unfold addM
  rw [if_neg (by rw [hx]; simp), hpos, if_neg (by rw [hc]; simp), if_neg (by omega), List.take_left, List.drop_left]
/-- A map moved to its place. -/
def mvM (m : M) (i : Nat) : M := { m with pa := m.pa % 16 + 40 * (i : Int) }
theorem mv_pa (m : M) (i : Nat) (hi : i ≤ 16) : IntKind.i64.wrap (bits .and .i64 m.pa 15 + IntKind.i64.wrap (40 * (i : Int))) = (mvM m i).pa := by
  rw [i64_and15, IntKind.wrap_i64, IntKind.wrap_i64]
  unfold mvM
  simp only
  omega
/-- Those from a on, below b. -/
def mvs (l : List M) (a b : Nat) : List M := (List.range' a (b - a)).map fun j => mvM (l.getD j noM) j
theorem mvs_len (l : List M) (a b : Nat) : (mvs l a b).length = b - a := by simp [mvs]
theorem mvs_snoc (l : List M) {a b : Nat} (h : a ≤ b) : mvs l a (b + 1) = mvs l a b ++ [mvM (l.getD b noM) b] := by
  unfold mvs
  rw [show b + 1 - a = (b - a) + 1 by omega, List.range'_1_concat, List.map_append, show a + (b - a) = b by omega]
  rfl
theorem mvs_join (l : List M) {a b c : Nat} (h : a ≤ b) (h2 : b ≤ c) : mvs l a b ++ mvs l b c = mvs l a c := by
  unfold mvs
  rw [← List.map_append, show b = a + (b - a) by omega, show c - (a + (b - a)) = c - b by omega, show a + (b - a) - a = b - a by omega, List.range'_append_1, show b - a + (c - b) = c - a by omega]
theorem mem_mvs {l : List M} {a b : Nat} {y : M} (h : y ∈ mvs l a b) : ∃ j, a ≤ j ∧ j < b ∧ y = mvM (l.getD j noM) j := by
  obtain ⟨j, hj, rfl⟩ := List.mem_map.1 h
  rw [List.mem_range'_1] at hj
  exact ⟨j, hj.1, by omega, rfl⟩
theorem mv_lt {l : List M} {j k : Nat} (h : j < k) (hf : fitsB (mvM (l.getD j noM) j) = true) : (mvM (l.getD j noM) j).pa < (mvM (l.getD k noM) k).pa ∧ (mvM (l.getD j noM) j).pa + (mvM (l.getD j noM) j).nn ≤ (mvM (l.getD k noM) k).pa := by
  unfold fitsB at hf
  rw [decide_eq_true_eq] at hf
  have h1 : (mvM (l.getD j noM) j).pa = (l.getD j noM).pa % 16 + 40 * (j : Int) := rfl
  have h2 : (mvM (l.getD k noM) k).pa = (l.getD k noM).pa % 16 + 40 * (k : Int) := rfl
  omega
end Go.Proofs.Ytbeeiecbbmiojaa.Y
