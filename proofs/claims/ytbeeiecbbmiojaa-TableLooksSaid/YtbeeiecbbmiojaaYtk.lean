/- Ytk: a root and what is in it, in plain Lean -/
import Derived.Test.YtbeeiecbbmiojaaYtg
namespace Go.Proofs.Ytbeeiecbbmiojaa.Y
open Go.RowKit Go.ChangeShapes Go.WideShapes Go.ChangeAt Go.ChangeMaps Go.MapKept

/-- No container holds more than that many. -/
def LenB (t : Tab) (k : Nat) : Prop := ∀ x q, t.ob x = some q → q.kids.length ≤ k
theorem LenB.mono {t : Tab} {k j : Nat} (h : LenB t k) (hk : k ≤ j) : LenB t j := fun x q hq => Nat.le_trans (h x q hq) hk
theorem lenB_upd {ob : Nat → Option TO} {k g : Nat} {o : TO} {tm tm' : List (Int × Nat)} (h : LenB ⟨tm, ob⟩ k) (ho : o.kids.length ≤ k) : LenB ⟨tm', upd ob g (some o)⟩ k := fun x q hq => by
  replace hq : upd ob g (some o) x = some q := hq
  by_cases e : x = g
  · subst e
    rw [upd_self] at hq
    injection hq with hq
    exact hq ▸ ho
  · rw [upd_ne e] at hq
    exact h x q hq
theorem homeOf_ob {t : Tab} {o q : TO} {g : Nat} (h : homeOf t o = some (g, q)) : t.ob g = some q := by
  unfold homeOf at h
  cases h1 : t.tm.lookup o.home with
  | none => rw [h1] at h; cases h
  | some g2 =>
    rw [h1] at h
    cases h2 : t.ob g2 with
    | none => simp [h2] at h
    | some q2 =>
      simp [h2] at h
      obtain ⟨rfl, rfl⟩ := h
      exact h2
theorem LenB.rem {t : Tab} {k : Nat} {n : Int} {o : TO} {tm' : List (Int × Nat)} (h : LenB t k) : LenB ⟨tm', remO t n o⟩ k := by
  unfold remO
  cases hh : homeOf t o with
  | none => exact h
  | some p =>
    obtain ⟨g, q⟩ := p
    exact lenB_upd (tm := t.tm) h (Nat.le_trans (List.length_filter_le _ _) (h g q (homeOf_ob hh)))
theorem LenB.add {t : Tab} {k g : Nat} {o : TO} (h : LenB t k) (ho : o.kids.length ≤ k) : LenB (addT t g o) (k + 1) := by
  unfold addT
  refine lenB_upd (tm := t.tm) ?_ (Nat.le_succ_of_le ho)
  unfold addO
  cases hh : homeOf t o with
  | none => exact LenB.mono h (Nat.le_succ k)
  | some p =>
    obtain ⟨g2, q⟩ := p
    exact lenB_upd (tm := t.tm) (LenB.mono h (Nat.le_succ k)) (by rw [List.length_append]; exact Nat.succ_le_succ (h g2 q (homeOf_ob hh)))
theorem lenB_T1 (g1 : Nat) : LenB (T1 g1) 0 := lenB_upd (tm := []) (k := 0) (ob := fun _ => none) (fun _ _ h => by cases h) (Nat.le_refl _)
theorem KInv.ok {t : Tab} {g1 : Nat} {want : List Int} (h : KInv t g1 want) : t.Ok := fun n g hn => by
  rcases List.mem_cons.1 (h.keys.mem_iff.1 (keys_mem hn)) with e | e
  · subst e
    rw [h.root] at hn
    injection hn with hn
    subst hn
    exact ⟨_, h.ro, rfl⟩
  · obtain ⟨_, _, g2, a3, _, a5⟩ := h.kid n e
    rw [a3] at hn
    injection hn with hn
    subst hn
    exact ⟨_, a5, rfl⟩
theorem kinv_T1 (g1 : Nat) : KInv (T1 g1) g1 [] := ⟨by simp [List.lookup], upd_self (f := fun _ => none), (fun _ h => by cases h), by simp, by simp⟩
theorem nil_filter {want : List Int} {n : Int} (h : n ∉ want) : want.filter (· != n) = want := List.filter_eq_self.2 fun m hm => by
  have : m ≠ n := fun e => h (e ▸ hm)
  simpa using this
theorem less_filter {want : List Int} {n : Int} : (decide ((want.filter (· != n)).length < want.length)) = decide (n ∈ want) := by
  by_cases h : n ∈ want
  · rw [decide_eq_true h]
    refine decide_eq_true ?_
    rcases Nat.lt_or_eq_of_le (List.length_filter_le (· != n) want) with h1 | h1
    · exact h1
    · exact absurd (List.length_filter_eq_length_iff.1 h1 n h) (by simp)
  · rw [decide_eq_false h, nil_filter h]
    exact decide_eq_false (Nat.lt_irrefl _)
theorem filter_gone {want : List Int} {n : Int} : n ∉ want.filter (· != n) := fun h => by simpa using (List.mem_filter.1 h).2

end Go.Proofs.Ytbeeiecbbmiojaa.Y
