/- Ytg: the example of the laws on tables, in plain Lean -/
import Derived.Test.YtbeeiecbbmiojaaYti
namespace Go.Proofs.Ytbeeiecbbmiojaa.Y
open Go.RowKit Go.ChangeShapes Go.WideShapes Go.ChangeAt Go.ChangeMaps Go.MapKept

/-- The example of the laws on tables. -/
abbrev T0 : Tab := ⟨[], fun _ => none⟩
abbrev rootO : TO := ⟨1, 1, 0, [], none⟩
abbrev rootK : TO := ⟨1, 1, 0, [5], none⟩
abbrev kidO : TO := ⟨5, 1, 1, [], none⟩
abbrev T1 (g1 : Nat) : Tab := ⟨[(1, g1)], upd (fun _ => none) g1 (some rootO)⟩
abbrev T2 (g1 g2 : Nat) : Tab := ⟨[(1, g1), (5, g2)], upd (upd (upd (fun _ => none) g1 (some rootO)) g1 (some rootK)) g2 (some kidO)⟩
theorem fit_1 (g1 : Nat) : addB T0 rootO = true ∧ addT T0 g1 rootO = T1 g1 := ⟨by simp [addB, mayAdd, homeOf], by simp [addT, addO, homeOf]⟩
theorem fit_2 {g1 g2 : Nat} : addB (T1 g1) kidO = true ∧ addT (T1 g1) g2 kidO = T2 g1 g2 := by
  have h : homeOf (T1 g1) kidO = some (g1, rootO) := by unfold homeOf; simp [List.lookup, upd_self]
  refine ⟨?_, ?_⟩
  · unfold addB mayAdd; rw [h]; simp [List.lookup]
  · unfold addT addO; rw [h]; simp
theorem fit_ob1 {g1 g2 : Nat} (h : g2 ≠ g1) : (T2 g1 g2).ob g1 = some rootK := by
  show upd _ g2 _ g1 = _
  rw [upd_ne (Ne.symm h), upd_self]
theorem fit_ob2 {g1 g2 : Nat} : (T2 g1 g2).ob g2 = some kidO := upd_self
theorem fit_l1 {g1 g2 : Nat} : (T2 g1 g2).tm.lookup 1 = some g1 := by simp [List.lookup]
theorem fit_l5 {g1 g2 : Nat} : (T2 g1 g2).tm.lookup 5 = some g2 := by simp [List.lookup]
theorem in_step {t : Tab} {nm c n : Int} {k g : Nat} {o : TO} (h0 : n ≠ 0) (hc : n ≠ c) (hl : t.tm.lookup n = some g) (ho : t.ob g = some o) : inF t nm c (k + 1) n = inF t nm c k o.home := by
  rw [inF, if_neg h0, if_neg hc, hl]
  simp only [ho]
theorem remL_go {ob : Nat → Option TO} {f : Nat} {tm : List (Int × Nat)} {out gs : List Nat} {i g : Nat} {o : TO} (hg : out[i]? = some g) (ho : ob g = some o) (hp : pops (delT tm o.name) o.kids = some gs) : remL ob (f + 1) tm out i = remL ob f (delT tm o.name) (out ++ gs) (i + 1) := by
  rw [remL, hg]
  simp only [ho, hp]
theorem fit_in1 {g1 g2 : Nat} : inF (T2 g1 g2) 5 1 2 5 = some true := by
  rw [in_step (by decide) (by decide) fit_l5 fit_ob2]
  unfold inF
  rw [if_neg (by decide), if_pos rfl, fit_l5]
  rfl
theorem fit_in2 {g1 g2 : Nat} (h : g2 ≠ g1) : inF (T2 g1 g2) 1 5 2 1 = some false := by
  rw [in_step (by decide) (by decide) fit_l1 (fit_ob1 h)]
  unfold inF
  rw [if_pos rfl]
theorem fit_remO {g1 g2 : Nat} : remO (T2 g1 g2) 1 rootK = (T2 g1 g2).ob := by
  have : homeOf (T2 g1 g2) rootK = none := by unfold homeOf; simp [List.lookup]
  unfold remO
  rw [this]
theorem fit_rem {g1 g2 : Nat} (h : g2 ≠ g1) : remL (remO (T2 g1 g2) 1 rootK) 3 (T2 g1 g2).tm [g1] 0 = some ([], [g1, g2]) := by
  rw [fit_remO, remL_go (g := g1) (gs := [g2]) rfl (fit_ob1 h) (by simp [delT, pops]), remL_go (g := g2) (gs := []) rfl fit_ob2 (by simp [pops])]
  simp [remL, delT]
theorem fit_ok1 (g1 : Nat) : (T1 g1).Ok := fun n g h => by
  simp only [List.lookup] at h
  split at h
  · rename_i hn
    injection h with h
    subst h
    exact ⟨rootO, (upd_self : upd (fun _ => (none : Option TO)) g1 (some rootO) g1 = some rootO), (show n = 1 by simpa using hn).symm⟩
  · cases h
theorem fit_ok2 {g1 g2 : Nat} (hne : g2 ≠ g1) : (T2 g1 g2).Ok := fun n g h => by
  simp only [List.lookup] at h
  split at h
  · rename_i hn
    injection h with h
    subst h
    exact ⟨rootK, fit_ob1 hne, (show n = 1 by simpa using hn).symm⟩
  · split at h
    · rename_i hn
      injection h with h
      subst h
      exact ⟨kidO, fit_ob2, (show n = 5 by simpa using hn).symm⟩
    · cases h

end Go.Proofs.Ytbeeiecbbmiojaa.Y
