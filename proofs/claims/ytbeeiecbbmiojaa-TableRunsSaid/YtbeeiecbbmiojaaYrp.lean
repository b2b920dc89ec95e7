/- Yrp: a table beside what is noted, in plain Lean -/
import Derived.Test.YtbeeiecbbmiojaaYav
namespace Go.Proofs.Ytbeeiecbbmiojaa.Y
open Go.RowKit Go.ChangeShapes Go.WideShapes Go.ChangeAt Go.ChangeMaps Go.MapKept

/-- A call as it is noted. -/
structure CR where
  kind : Int
  name : Int
  home : Int
  what : Int
  on : Int
deriving instance DecidableEq for CR
def zR : CR := ⟨0, 0, 0, 0, 0⟩
abbrev cL (c : CR) : List Value := [.int .i64 c.kind, .int .u64 c.name, .int .u64 c.home, .int .i64 c.what, .int .i64 c.on]
abbrev cV (c : CR) : Value := .agg #[.int .i64 c.kind, .int .u64 c.name, .int .u64 c.home, .int .i64 c.what, .int .i64 c.on]
abbrev Noted := List (Int × CR)
def mV (mm : Noted) : List (Int × Value) := mm.map fun p => (p.1, cV p.2)
def crOf (mm : Noted) (n : Int) : CR := (mm.lookup n).getD zR
theorem mV_look : ∀ (mm : Noted) (n : Int), (mV mm).lookup n = (mm.lookup n).map cV
  | [], _ => rfl
  | (k, g) :: t, n => by
    show List.lookup n ((k, cV g) :: mV t) = _
    rw [List.lookup_cons, List.lookup_cons]
    cases n == k with
    | true => rfl
    | false => exact mV_look t n
theorem mV_at (mm : Noted) (n : Int) : ((mV mm).lookup n).getD (cV zR) = cV (crOf mm n) := by
  rw [mV_look]
  unfold crOf
  cases mm.lookup n <;> rfl
theorem mV_keys (mm : Noted) : (mV mm).map (·.1) = mm.map (·.1) := by
  unfold mV
  rw [List.map_map]
  rfl
theorem mV_len (mm : Noted) : (mV mm).length = mm.length := List.length_map _
theorem mV_app (mm : Noted) (p : Int × CR) : mV (mm ++ [p]) = mV mm ++ [(p.1, cV p.2)] := by
  unfold mV
  rw [List.map_append]
  rfl
theorem mm_none {mm : Noted} {n : Int} (h : n ∉ mm.map (·.1)) : mm.lookup n = none := by
  induction mm with
  | nil => rfl
  | cons p t ih =>
    rw [List.map_cons, List.mem_cons, not_or] at h
    rw [show p = (p.1, p.2) from rfl, List.lookup_cons, show (n == p.1) = false by simpa using h.1]
    exact ih h.2
theorem mm_some {mm : Noted} (hn : (mm.map (·.1)).Nodup) {p : Int × CR} (hp : p ∈ mm) : mm.lookup p.1 = some p.2 := by
  induction mm with
  | nil => cases hp
  | cons q t ih =>
    rw [List.map_cons, List.nodup_cons] at hn
    rw [show q = (q.1, q.2) from rfl, List.lookup_cons]
    rcases List.mem_cons.1 hp with e | e
    · subst e; simp
    · have hne : p.1 ≠ q.1 := fun e' => hn.1 (e' ▸ List.mem_map.2 ⟨p, e, rfl⟩)
      rw [show (p.1 == q.1) = false by simpa using hne]
      exact ih hn.2 e
theorem cr_mem {mm : Noted} (hn : (mm.map (·.1)).Nodup) {p : Int × CR} (hp : p ∈ mm) : crOf mm p.1 = p.2 := by
  unfold crOf; rw [mm_some hn hp]; rfl
theorem cr_none {mm : Noted} {n : Int} (h : n ∉ mm.map (·.1)) : crOf mm n = zR := by
  unfold crOf; rw [mm_none h]; rfl
/-- What is in a container. -/
def kidsOf (mm : Noted) (n : Int) : List Int := (mm.filter fun p => p.2.home == n).map (·.1)
theorem kids_app (mm : Noted) (p : Int × CR) (n : Int) : kidsOf (mm ++ [p]) n = kidsOf mm n ++ (if p.2.home = n then [p.1] else []) := by
  unfold kidsOf
  rw [List.filter_append, List.map_append, List.filter_cons]
  by_cases h : p.2.home = n
  · simp [h]
  · simp [h]
theorem kids_mem {mm : Noted} {n k : Int} : k ∈ kidsOf mm n ↔ ∃ p ∈ mm, p.1 = k ∧ p.2.home = n := by
  unfold kidsOf
  rw [List.mem_map]
  constructor
  · rintro ⟨p, hp, rfl⟩
    obtain ⟨h1, h2⟩ := List.mem_filter.1 hp
    exact ⟨p, h1, rfl, by simpa using h2⟩
  · rintro ⟨p, hp, rfl, h⟩
    exact ⟨p, List.mem_filter.2 ⟨hp, by simpa using h⟩, rfl⟩
theorem kids_sub (mm : Noted) (n : Int) : (kidsOf mm n).Sublist (mm.map (·.1)) := (List.filter_sublist).map _
theorem nd_len {α : Type} [DecidableEq α] : ∀ {l m : List α}, l.Nodup → (∀ x ∈ l, x ∈ m) → l.length ≤ m.length
  | [], _, _, _ => Nat.zero_le _
  | a :: t, m, hn, hs => by
    rw [List.nodup_cons] at hn
    have ha := hs a List.mem_cons_self
    have h1 := nd_len (m := m.erase a) hn.2 fun x hx => (List.mem_erase_of_ne fun e : x = a => hn.1 (e ▸ hx)).2 (hs x (List.mem_cons_of_mem _ hx))
    rw [List.length_erase_of_mem ha] at h1
    have := List.length_pos_of_mem ha
    rw [List.length_cons]
    omega
/-- Each stands behind its container. -/
def Up (mm : Noted) : Prop := ∀ pre p post, mm = pre ++ p :: post → (p.1 = 1 ∧ p.2.home = 0) ∨ ∃ q ∈ pre, q.1 = p.2.home ∧ q.2.what = 1
/-- A table holds what is noted. -/
structure RInv (t : Tab) (mm : Noted) : Prop where
  keys : t.tm.map (·.1) = mm.map (·.1)
  nd : (mm.map (·.1)).Nodup
  cr : ∀ p ∈ mm, p.2.kind = 1 ∧ p.2.name = p.1 ∧ 0 < p.1 ∧ p.1 < 16
  ob : ∀ p ∈ mm, ∃ g th, t.tm.lookup p.1 = some g ∧ t.ob g = some ⟨p.1, p.2.what, p.2.home, kidsOf mm p.1, th⟩
  up : Up mm
section
variable {t : Tab} {mm : Noted}
theorem RInv.len (h : RInv t mm) : t.tm.length = mm.length := by
  have := congrArg List.length h.keys
  simpa using this
theorem RInv.le16 (h : RInv t mm) : mm.length ≤ 16 := by
  have h1 : (mm.map (·.1)).map Int.toNat ⊆ List.range 16 := fun x hx => by
    obtain ⟨y, hy, rfl⟩ := List.mem_map.1 hx
    obtain ⟨p, hp, rfl⟩ := List.mem_map.1 hy
    have := h.cr p hp
    rw [List.mem_range]; omega
  have h2 : ((mm.map (·.1)).map Int.toNat).Nodup := by
    rw [List.nodup_iff_pairwise_ne, List.pairwise_map]
    refine List.Pairwise.imp_of_mem (fun {a b} ha hb hab => ?_) h.nd
    obtain ⟨p, hp, rfl⟩ := List.mem_map.1 ha
    obtain ⟨q, hq, rfl⟩ := List.mem_map.1 hb
    have := h.cr p hp; have := h.cr q hq
    intro e
    exact hab (by omega)
  have := nd_len h2 h1
  simpa using this
theorem RInv.gone0 (h : RInv t mm) {n : Int} (hn : n ∉ mm.map (·.1)) : t.tm.lookup n = none := keys_none (by rw [h.keys]; exact hn)
theorem RInv.zero (h : RInv t mm) : (0 : Int) ∉ mm.map (·.1) := fun hm => by
  obtain ⟨p, hp, e⟩ := List.mem_map.1 hm
  have := (h.cr p hp).2.2.1
  omega
theorem RInv.ok (h : RInv t mm) : t.Ok := fun n g hn => by
  have hm : n ∈ mm.map (·.1) := by rw [← h.keys]; exact keys_mem hn
  obtain ⟨p, hp, rfl⟩ := List.mem_map.1 hm
  obtain ⟨g2, th, a1, a2⟩ := h.ob p hp
  rw [a1] at hn
  injection hn with hn
  subst hn
  exact ⟨_, a2, rfl⟩
theorem rinv_0 : RInv T0 [] := ⟨rfl, List.nodup_nil, (fun _ h => by cases h), (fun _ h => by cases h), fun pre p post e => by simp at e⟩
theorem mem_split2 {α : Type} {l : List α} {p : α} (h : p ∈ l) : ∃ pre post, l = pre ++ p :: post := List.append_of_mem h
theorem RInv.homes (h : RInv t mm) {p : Int × CR} (hp : p ∈ mm) : p.2.home = 0 ∨ p.2.home ∈ mm.map (·.1) := by
  obtain ⟨pre, post, e⟩ := mem_split2 hp
  rcases h.up pre p post e with h1 | ⟨q, hq, h1, _⟩
  · exact .inl h1.2
  · exact .inr (List.mem_map.2 ⟨q, by rw [e]; exact List.mem_append_left _ hq, h1⟩)
theorem RInv.home_ne (h : RInv t mm) {p : Int × CR} (hp : p ∈ mm) : p.2.home ≠ p.1 := by
  obtain ⟨pre, post, e⟩ := mem_split2 hp
  rcases h.up pre p post e with h1 | ⟨q, hq, h1, _⟩
  · have := (h.cr p hp).2.2.1
    omega
  · intro e2
    have hn := h.nd
    rw [e, List.map_append, List.map_cons, List.nodup_append] at hn
    exact hn.2.2 q.1 (List.mem_map.2 ⟨q, hq, rfl⟩) p.1 List.mem_cons_self (h1.trans e2)
/-- What may be added, by what is noted. -/
def mayR (mm : Noted) (n hm : Int) : Bool := ((n != 0) && !(mm.map (·.1)).contains n) && (((mm.map (·.1)).contains hm && ((crOf mm hm).what == 1)) || ((n == 1 && hm == 0) && !(mm.map (·.1)).contains hm))
theorem RInv.may (h : RInv t mm) {o : TO} : addB t o = mayR mm o.name o.home := by
  have hk : ∀ n, (t.tm.lookup n).isNone = !(mm.map (·.1)).contains n := fun n => by
    by_cases hm : n ∈ mm.map (·.1)
    · obtain ⟨p, hp, rfl⟩ := List.mem_map.1 hm
      obtain ⟨g, th, a1, _⟩ := h.ob p hp
      rw [a1, List.contains_iff_mem.2 hm]; rfl
    · rw [h.gone0 hm, show (mm.map (·.1)).contains n = false by simpa using hm]; rfl
  unfold addB mayR
  rw [hk o.name]
  congr 1
  unfold mayAdd homeOf
  by_cases hm : o.home ∈ mm.map (·.1)
  · obtain ⟨p, hp, e⟩ := List.mem_map.1 hm
    obtain ⟨g, th, a1, a2⟩ := h.ob p hp
    rw [e] at a1
    have h0 : o.home ≠ 0 := fun e0 => h.zero (e0 ▸ hm)
    rw [a1, List.contains_iff_mem.2 hm]
    simp only [a2, Option.map_some]
    rw [← e, cr_mem h.nd hp]
    rw [← e] at h0
    simp [h0]
  · rw [h.gone0 hm, show (mm.map (·.1)).contains o.home = false by simpa using hm]
    simp
/-- What is added. -/
theorem RInv.add (h : RInv t mm) {o : TO} {g : Nat} (hg : t.ob g = none) (hA : addB t o = true) (h0 : 0 ≤ o.name) (h16 : o.name < 16) (hk : o.kids = []) {c : CR} (c1 : c.kind = 1) (c2 : c.name = o.name) (c3 : c.home = o.home) (c4 : c.what = o.kind) : RInv (addT t g o) (mm ++ [(o.name, c)]) := by
  obtain ⟨nm, kd, hm, ks, th⟩ := o
  dsimp only at h0 h16 hk c2 c3 c4
  subst hk
  have hA2 := hA
  rw [h.may] at hA2
  unfold mayR at hA2
  simp only [Bool.and_eq_true, Bool.or_eq_true, bne_iff_ne, Bool.not_eq_true', beq_iff_eq] at hA2
  obtain ⟨⟨hn0, hnk⟩, hmay⟩ := hA2
  have hnm : nm ∉ mm.map (·.1) := fun hh => by rw [List.contains_iff_mem.2 hh] at hnk; cases hnk
  have hnt : nm ∉ t.tm.map (·.1) := by rw [h.keys]; exact hnm
  have noKids : kidsOf mm nm = [] := by
    rw [List.eq_nil_iff_forall_not_mem]
    intro k hk
    obtain ⟨p, hp, _, e⟩ := kids_mem.1 hk
    rcases h.homes hp with h1 | h1
    · omega
    · exact hnm (e ▸ h1)
  have look : ∀ m, m ≠ nm → (t.tm ++ [(nm, g)]).lookup m = t.tm.lookup m := fun m hm => by rw [look_app hnt, if_neg hm]
  have keysE : (addT t g ⟨nm, kd, hm, [], th⟩).tm.map (·.1) = (mm ++ [(nm, c)]).map (·.1) := by
    show (t.tm ++ [(nm, g)]).map (·.1) = _
    rw [List.map_append, List.map_append, h.keys]
    rfl
  have ndE : ((mm ++ [(nm, c)]).map (·.1)).Nodup := by
    rw [List.map_append, List.nodup_append]
    refine ⟨h.nd, by simp, fun a ha b hb e => ?_⟩
    have : b = nm := by simpa using hb
    exact hnm (this ▸ e ▸ ha)
  have crE : ∀ p ∈ mm ++ [(nm, c)], p.2.kind = 1 ∧ p.2.name = p.1 ∧ 0 < p.1 ∧ p.1 < 16 := fun p hp => by
    rcases List.mem_append.1 hp with hp | hp
    · exact h.cr p hp
    · rw [List.mem_singleton.1 hp]
      exact ⟨c1, c2, by omega, h16⟩
  have upE : ∀ (hh : (nm = 1 ∧ hm = 0) ∨ ∃ q ∈ mm, q.1 = hm ∧ q.2.what = 1), Up (mm ++ [(nm, c)]) := fun hh pre p post e => by
    rcases List.append_eq_append_iff.1 e with ⟨a, rfl, e2⟩ | ⟨b, e1, e2⟩
    · cases a with
      | nil =>
        simp only [List.nil_append, List.cons.injEq] at e2
        obtain ⟨rfl, _⟩ := e2
        rw [List.append_nil]
        dsimp only
        rw [c3]
        exact hh
      | cons x t2 =>
        simp only [List.cons_append, List.cons.injEq] at e2
        obtain ⟨_, e3⟩ := e2
        exact absurd e3 (by simp)
    · cases b with
      | nil =>
        simp only [List.nil_append, List.cons.injEq] at e2
        obtain ⟨rfl, _⟩ := e2
        rw [List.append_nil] at e1
        rw [← e1]
        dsimp only
        rw [c3]
        exact hh
      | cons x t2 =>
        simp only [List.cons_append, List.cons.injEq] at e2
        obtain ⟨rfl, _⟩ := e2
        exact h.up pre p t2 e1
  rcases hmay with ⟨h1, h2⟩ | ⟨⟨h1, h2⟩, _⟩
  · -- into a container
    have hmem : hm ∈ mm.map (·.1) := List.contains_iff_mem.1 h1
    obtain ⟨q, hq, eq⟩ := List.mem_map.1 hmem
    obtain ⟨gq, tq, a1, a2⟩ := h.ob q hq
    have hw : q.2.what = 1 := by rw [← cr_mem h.nd hq, eq]; exact h2
    have hho : homeOf t ⟨nm, kd, hm, [], th⟩ = some (gq, ⟨q.1, q.2.what, q.2.home, kidsOf mm q.1, tq⟩) := by
      unfold homeOf
      dsimp only
      rw [← eq, a1]
      simp [a2]
    have hgq : g ≠ gq := fun e => by rw [e, a2] at hg; cases hg
    refine ⟨keysE, ndE, crE, fun p hp => ?_, upE (.inr ⟨q, hq, eq, hw⟩)⟩
    rw [addT_some hho]
    rcases List.mem_append.1 hp with hp | hp
    · obtain ⟨gp, tp, b1, b2⟩ := h.ob p hp
      have hpn : p.1 ≠ nm := fun e => hnm (e ▸ List.mem_map.2 ⟨p, hp, rfl⟩)
      have hgp : gp ≠ g := fun e => by rw [← e, b2] at hg; cases hg
      refine ⟨gp, tp, ?_, ?_⟩
      · show (t.tm ++ [(nm, g)]).lookup p.1 = _
        rw [look _ hpn]; exact b1
      · show upd (upd t.ob gq _) g _ gp = _
        rw [upd_ne hgp, kids_app]
        by_cases e : gp = gq
        · subst e
          rw [a2] at b2
          injection b2 with b2
          injection b2 with b3 b4 b5 b6 b7
          rw [upd_self, if_pos (by rw [c3, ← eq]; exact b3), ← b3, b4, b5, b7]
        · rw [upd_ne e, b2, if_neg, List.append_nil]
          intro e2
          rw [c3, ← eq] at e2
          rw [← e2, a1] at b1
          injection b1 with b1
          exact e b1.symm
    · rw [List.mem_singleton.1 hp]
      refine ⟨g, th, ?_, ?_⟩
      · show (t.tm ++ [(nm, g)]).lookup nm = _
        rw [look_app hnt, if_pos rfl]
      · show upd (upd t.ob gq _) g _ g = _
        rw [upd_self, kids_app, noKids, if_neg (fun e => hnm (by rw [← (show c.home = nm from e), c3]; exact hmem)), c3, c4]
        rfl
  · -- the root
    subst h1 h2
    have hho : homeOf t ⟨1, kd, 0, [], th⟩ = none := by
      unfold homeOf
      dsimp only
      rw [h.gone0 h.zero]
    refine ⟨keysE, ndE, crE, fun p hp => ?_, upE (.inl ⟨rfl, rfl⟩)⟩
    rw [addT_none hho]
    rcases List.mem_append.1 hp with hp | hp
    · obtain ⟨gp, tp, b1, b2⟩ := h.ob p hp
      have hpn : p.1 ≠ 1 := fun e => hnm (e ▸ List.mem_map.2 ⟨p, hp, rfl⟩)
      have hgp : gp ≠ g := fun e => by rw [← e, b2] at hg; cases hg
      refine ⟨gp, tp, ?_, ?_⟩
      · show (t.tm ++ [(1, g)]).lookup p.1 = _
        rw [look _ hpn]; exact b1
      · show upd t.ob g _ gp = _
        rw [upd_ne hgp, kids_app, b2, if_neg (fun e => by have := (h.cr p hp).2.2.1; rw [c3] at e; omega), List.append_nil]
    · rw [List.mem_singleton.1 hp]
      refine ⟨g, th, ?_, ?_⟩
      · show (t.tm ++ [(1, g)]).lookup 1 = _
        rw [look_app hnt, if_pos rfl]
      · show upd t.ob g _ g = _
        rw [upd_self, kids_app, noKids, if_neg (fun e => by rw [c3] at e; dsimp only at e; omega), c3, c4]
        rfl
end

end Go.Proofs.Ytbeeiecbbmiojaa.Y
