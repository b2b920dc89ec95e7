/- Ytp: what a table does, in plain Lean -/
import Derived.Test.YtbeeiecbbmiojaaYtm
namespace Go.Proofs.Ytbeeiecbbmiojaa.Y
open Go.RowKit Go.ChangeShapes Go.WideShapes Go.ChangeAt Go.ChangeMaps Go.MapKept

/-- The container that an object is to come into. -/
def homeOf (t : Tab) (o : TO) : Option (Nat × TO) := match t.tm.lookup o.home with
  | some g => (t.ob g).map fun h => (g, h)
  | none => none
def mayAdd (t : Tab) (o : TO) : Bool := match homeOf t o with
  | some (_, h) => h.kind == 1 || (o.name == 1 && o.home == 0)
  | none => o.name == 1 && o.home == 0
def addB (t : Tab) (o : TO) : Bool := (o.name != 0 && (t.tm.lookup o.name).isNone) && mayAdd t o
def addO (t : Tab) (o : TO) : Nat → Option TO := match homeOf t o with
  | some (g, h) => upd t.ob g (some { h with kids := h.kids ++ [o.name] })
  | none => t.ob
def addT (t : Tab) (g : Nat) (o : TO) : Tab := ⟨t.tm ++ [(o.name, g)], upd (addO t o) g (some o)⟩
/-- So many names told at once. -/
def pops (tm : List (Int × Nat)) : List Int → Option (List Nat)
  | [] => some []
  | k :: ks => match tm.lookup k, pops tm ks with
    | some g, some gs => some (g :: gs)
    | _, _ => none
def delT (tm : List (Int × Nat)) (n : Int) : List (Int × Nat) := tm.filter fun p => p.1 != n
/-- What goes with an object, one behind the other. -/
def remL (ob : Nat → Option TO) : Nat → List (Int × Nat) → List Nat → Nat → Option (List (Int × Nat) × List Nat)
  | 0, _, _, _ => none
  | f + 1, tm, out, i => match out[i]? with
    | none => some (tm, out)
    | some g => match ob g with
      | none => none
      | some o => match pops (delT tm o.name) o.kids with
        | none => none
        | some gs => remL ob f (delT tm o.name) (out ++ gs) (i + 1)
/-- The objects when one is taken out of its container. -/
def remO (t : Tab) (n : Int) (o : TO) : Nat → Option TO := match homeOf t o with
  | some (g, h) => upd t.ob g (some { h with kids := h.kids.filter (· != n) })
  | none => t.ob
theorem keys_none {l : List (Int × Nat)} {n : Int} (h : n ∉ l.map (·.1)) : l.lookup n = none := by
  induction l with
  | nil => rfl
  | cons p t ih =>
    obtain ⟨k, g⟩ := p
    rw [List.map_cons, List.mem_cons, not_or] at h
    rw [List.lookup_cons, show (n == k) = false by simpa using h.1]
    exact ih h.2
theorem keys_some {l : List (Int × Nat)} {n : Int} {g : Nat} (h : l.lookup n = some g) : (n, g) ∈ l := by
  induction l with
  | nil => cases h
  | cons p t ih =>
    obtain ⟨k, g'⟩ := p
    rw [List.lookup_cons] at h
    cases hk : n == k with
    | true => rw [hk] at h; simp at h hk; subst h hk; exact List.mem_cons_self
    | false => rw [hk] at h; exact List.mem_cons_of_mem _ (ih h)
theorem keys_mem {l : List (Int × Nat)} {n : Int} {g : Nat} (h : l.lookup n = some g) : n ∈ l.map (·.1) := List.mem_map.2 ⟨_, keys_some h, rfl⟩
theorem look_app {l : List (Int × Nat)} {n m : Int} {g : Nat} (h : n ∉ l.map (·.1)) : (l ++ [(n, g)]).lookup m = if m = n then some g else l.lookup m := by
  induction l with
  | nil =>
    rw [List.nil_append, List.lookup_cons]
    by_cases e : m = n
    · simp [e]
    · rw [show (m == n) = false by simpa using e, if_neg e]
  | cons p t ih =>
    obtain ⟨k, g'⟩ := p
    rw [List.map_cons, List.mem_cons, not_or] at h
    rw [List.cons_append, List.lookup_cons, List.lookup_cons]
    cases hk : m == k with
    | true =>
      have : m = k := by simpa using hk
      rw [if_neg fun e => h.1 (e.symm.trans this)]
    | false => exact ih h.2
theorem look_del {l : List (Int × Nat)} {n m : Int} : (delT l n).lookup m = if m = n then none else l.lookup m := by
  induction l with
  | nil => simp [delT]
  | cons p t ih =>
    obtain ⟨k, g⟩ := p
    unfold delT at ih ⊢
    rw [List.filter_cons]
    by_cases e : k = n
    · subst e
      rw [if_neg (by simp), ih, List.lookup_cons]
      by_cases e2 : m = k
      · rw [if_pos e2, if_pos e2]
      · rw [if_neg e2, if_neg e2, show (m == k) = false by simpa using e2]
    · rw [if_pos (by simpa using e), List.lookup_cons, List.lookup_cons]
      cases hk : m == k with
      | true =>
        have : m = k := by simpa using hk
        rw [if_neg fun h => e (this.symm.trans h)]
      | false => exact ih
theorem del_vals (tm : List (Int × Nat)) (n : Int) : delA (tm.map fun p => (p.1, ptrV p.2)) n = (delT tm n).map fun p => (p.1, ptrV p.2) := by
  unfold delA delT
  rw [List.filter_map]
  rfl
theorem put_vals {tm : List (Int × Nat)} {n : Int} (g : Nat) (h : tm.lookup n = none) : putA (tm.map fun p => (p.1, ptrV p.2)) n (ptrV g) = (tm ++ [(n, g)]).map fun p => (p.1, ptrV p.2) := by
  unfold putA
  have : n ∉ (tm.map fun p => (p.1, ptrV p.2)).map (·.1) := fun hm => by
    rw [List.map_map] at hm
    have h2 : n ∈ tm.map (·.1) := hm
    clear hm
    induction tm with
    | nil => cases h2
    | cons p t ih =>
      obtain ⟨k, g'⟩ := p
      rw [List.lookup_cons] at h
      cases hk : n == k with
      | true => rw [hk] at h; cases h
      | false =>
        rw [hk] at h
        rw [List.map_cons, List.mem_cons] at h2
        rcases h2 with e | h2
        · simp at hk; exact hk e
        · exact ih h h2
  rw [if_neg this, List.map_append]
  rfl
theorem del_keys (tm : List (Int × Nat)) (n : Int) : (delT tm n).map (·.1) = (tm.map (·.1)).filter (· != n) := by
  unfold delT
  rw [List.filter_map]
  rfl
/-- A root, and what is in it. -/
structure KInv (t : Tab) (g1 : Nat) (want : List Int) : Prop where
  root : t.tm.lookup 1 = some g1
  ro : t.ob g1 = some ⟨1, 1, 0, want, none⟩
  kid : ∀ n ∈ want, n ≠ 1 ∧ n ≠ 0 ∧ ∃ g, t.tm.lookup n = some g ∧ g ≠ g1 ∧ t.ob g = some ⟨n, 6, 1, [], none⟩
  keys : (t.tm.map (·.1)).Perm (1 :: want)
  nd : (1 :: want).Nodup
theorem KInv.none {t : Tab} {g1 : Nat} {want : List Int} (h : KInv t g1 want) {n : Int} (h1 : n ≠ 1) (hn : n ∉ want) : t.tm.lookup n = none := keys_none fun hm => by
  rcases List.mem_cons.1 (h.keys.mem_iff.1 hm) with e | e
  · exact h1 e
  · exact hn e
theorem KInv.len {t : Tab} {g1 : Nat} {want : List Int} (h : KInv t g1 want) : t.tm.length = want.length + 1 := by
  have := h.keys.length_eq
  simpa using this
theorem KInv.home {t : Tab} {g1 : Nat} {want : List Int} (h : KInv t g1 want) {o : TO} (ho : o.home = 1) : homeOf t o = some (g1, ⟨1, 1, 0, want, .none⟩) := by
  unfold homeOf
  rw [ho, h.root]
  simp [h.ro]
theorem KInv.add {t : Tab} {g1 : Nat} {want : List Int} (h : KInv t g1 want) {n : Int} (h0 : n ≠ 0) (h1 : n ≠ 1) (hn : n ∉ want) {g : Nat} (hg : t.ob g = .none) : addB t ⟨n, 6, 1, [], .none⟩ = true ∧ KInv (addT t g ⟨n, 6, 1, [], .none⟩) g1 (want ++ [n]) := by
  have hh := h.home (o := ⟨n, 6, 1, [], .none⟩) rfl
  have hl := h.none h1 hn
  have hgg : g ≠ g1 := fun e => by rw [e, h.ro] at hg; cases hg
  have hk : n ∉ t.tm.map (·.1) := fun hm => by
    rcases List.mem_cons.1 (h.keys.mem_iff.1 hm) with e | e
    · exact h1 e
    · exact hn e
  have eo : addO t ⟨n, 6, 1, [], .none⟩ = upd t.ob g1 (some ⟨1, 1, 0, want ++ [n], .none⟩) := by unfold addO; rw [hh]
  refine ⟨?_, ?_, ?_, fun m hm => ?_, ?_, ?_⟩
  · unfold addB mayAdd
    rw [hh, hl]
    simp [h0]
  · show (t.tm ++ [(n, g)]).lookup 1 = _
    rw [look_app hk, if_neg (fun e => h1 e.symm)]
    exact h.root
  · show upd (addO t _) g _ g1 = _
    rw [upd_ne (fun e => hgg e.symm), eo, upd_self]
  · rcases List.mem_append.1 hm with hm | hm
    · obtain ⟨a1, a2, q, a3, a4, a5⟩ := h.kid m hm
      refine ⟨a1, a2, q, ?_, a4, ?_⟩
      · show (t.tm ++ [(n, g)]).lookup m = _
        rw [look_app hk, if_neg (fun e : m = n => hn (e ▸ hm))]
        exact a3
      · show upd (addO t _) g _ q = _
        rw [upd_ne (fun e => by rw [e, hg] at a5; cases a5), eo, upd_ne a4]
        exact a5
    · rw [List.mem_singleton.1 hm]
      refine ⟨h1, h0, g, ?_, hgg, ?_⟩
      · show (t.tm ++ [(n, g)]).lookup n = _
        rw [look_app hk, if_pos rfl]
      · show upd (addO t _) g _ g = _
        rw [upd_self]
  · show ((t.tm ++ [(n, g)]).map (·.1)).Perm (1 :: (want ++ [n]))
    rw [List.map_append]
    exact h.keys.append_right [n]
  · show (([1] ++ want) ++ [n]).Nodup
    rw [List.nodup_append]
    refine ⟨h.nd, by simp, fun a ha b hb e => ?_⟩
    rw [List.mem_singleton.1 hb] at e
    subst e
    rcases List.mem_cons.1 ha with e | e
    · exact h1 e
    · exact hn e
theorem KInv.rem {t : Tab} {g1 : Nat} {want : List Int} (h : KInv t g1 want) {n : Int} (hn : n ∈ want) : ∃ g, t.tm.lookup n = some g ∧ g ≠ g1 ∧ t.ob g = some ⟨n, 6, 1, [], .none⟩ ∧ remL (remO t n ⟨n, 6, 1, [], .none⟩) 2 t.tm [g] 0 = some (delT t.tm n, [g]) ∧ KInv ⟨delT t.tm n, remO t n ⟨n, 6, 1, [], .none⟩⟩ g1 (want.filter (· != n)) := by
  obtain ⟨h1, h0, g, a3, a4, a5⟩ := h.kid n hn
  have hh := h.home (o := ⟨n, 6, 1, [], .none⟩) rfl
  have eo : remO t n ⟨n, 6, 1, [], .none⟩ = upd t.ob g1 (some ⟨1, 1, 0, want.filter (· != n), .none⟩) := by unfold remO; rw [hh]
  refine ⟨g, a3, a4, a5, ?_, ?_, ?_, fun m hm => ?_, ?_, ?_⟩
  · rw [eo]
    simp [remL, upd_ne a4, a5, pops]
  · show (delT t.tm n).lookup 1 = _
    rw [look_del, if_neg (fun e => h1 e.symm)]
    exact h.root
  · show remO t n _ g1 = _
    rw [eo, upd_self]
  · obtain ⟨hm, hmn⟩ := List.mem_filter.1 hm
    have hmn' : m ≠ n := by simpa using hmn
    obtain ⟨b1, b2, q, b3, b4, b5⟩ := h.kid m hm
    refine ⟨b1, b2, q, ?_, b4, ?_⟩
    · show (delT t.tm n).lookup m = _
      rw [look_del, if_neg hmn']
      exact b3
    · show remO t n _ q = _
      rw [eo, upd_ne b4]
      exact b5
  · show ((delT t.tm n).map (·.1)).Perm (1 :: want.filter (· != n))
    rw [del_keys]
    have := h.keys.filter (· != n)
    rwa [List.filter_cons, if_pos (by simpa using fun e : (1 : Int) = n => h1 e.symm)] at this
  · have := h.nd.filter (· != n)
    rwa [List.filter_cons, if_pos (by simpa using fun e : (1 : Int) = n => h1 e.symm)] at this

end Go.Proofs.Ytbeeiecbbmiojaa.Y
