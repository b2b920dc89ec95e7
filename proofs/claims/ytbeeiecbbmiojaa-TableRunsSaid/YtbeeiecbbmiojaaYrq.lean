/- Yrq: what goes with an object, in plain Lean -/
import Derived.Test.YtbeeiecbbmiojaaYrp
namespace Go.Proofs.Ytbeeiecbbmiojaa.Y
open Go.RowKit Go.ChangeShapes Go.WideShapes Go.ChangeAt Go.ChangeMaps Go.MapKept

/-- One more that is asked whether it goes. -/
def goneP (n : Int) (f : Int → Bool) (p : Int × CR) : Int → Bool := fun x => if x = p.1 then (p.1 == n || f p.2.home) else f x
/-- Which go with a name, one noted behind the other. -/
def goneF (n : Int) (mm : Noted) : Int → Bool := mm.foldl (goneP n) fun _ => false
theorem goneF_app (n : Int) (mm : Noted) (p : Int × CR) : goneF n (mm ++ [p]) = goneP n (goneF n mm) p := by
  unfold goneF
  rw [List.foldl_append]
  rfl
theorem fold_not {n x : Int} : ∀ (mm : Noted) (f : Int → Bool), x ∉ mm.map (·.1) → mm.foldl (goneP n) f x = f x
  | [], _, _ => rfl
  | p :: t, f, h => by
    rw [List.map_cons, List.mem_cons, not_or] at h
    rw [List.foldl_cons, fold_not t _ h.2]
    exact if_neg h.1
theorem fold_no {n : Int} : ∀ (mm : Noted) (f : Int → Bool), n ∉ mm.map (·.1) → (∀ x, f x = false) → ∀ x, mm.foldl (goneP n) f x = false
  | [], f, _, h, x => h x
  | p :: t, f, hn, h, x => by
    rw [List.map_cons, List.mem_cons, not_or] at hn
    refine fold_no t _ hn.2 (fun y => ?_) x
    unfold goneP
    by_cases e : y = p.1
    · rw [if_pos e, h, Bool.or_false]; simpa using fun e2 : p.1 = n => hn.1 e2.symm
    · rw [if_neg e]; exact h y
theorem gone_none {n : Int} {mm : Noted} (hn : n ∉ mm.map (·.1)) (x : Int) : goneF n mm x = false := fold_no mm _ hn (fun _ => rfl) x
theorem gone_out {n x : Int} {mm : Noted} (hx : x ∉ mm.map (·.1)) : goneF n mm x = false := fold_not mm _ hx
theorem look_filter {α : Type} (f : Int → Bool) (n : Int) : ∀ l : List (Int × α), (l.filter fun p => f p.1).lookup n = if f n then l.lookup n else none
  | [] => by simp
  | p :: t => by
    have ih := look_filter f n t
    rw [List.filter_cons, show List.lookup n (p :: t) = (match n == p.1 with | true => some p.2 | false => t.lookup n) from rfl]
    by_cases e : n = p.1
    · subst e
      cases hf : f p.1 with
      | true => simp [show List.lookup p.1 (p :: t.filter fun p => f p.1) = (match p.1 == p.1 with | true => some p.2 | false => (t.filter fun p => f p.1).lookup p.1) from rfl]
      | false => simp [hf] at ih ⊢; exact ih
    · have hb : (n == p.1) = false := by simpa using e
      simp only [hb]
      cases hf : f p.1 with
      | true => rw [if_pos rfl, show List.lookup n (p :: t.filter fun p => f p.1) = (match n == p.1 with | true => some p.2 | false => (t.filter fun p => f p.1).lookup n) from rfl]; simp only [hb]; exact ih
      | false => exact ih
section
variable {t : Tab} {mm : Noted}
theorem RInv.nd2 (h : RInv t mm) {pre post : Noted} {p : Int × CR} (e : mm = pre ++ p :: post) : p.1 ∉ pre.map (·.1) ∧ p.1 ∉ post.map (·.1) ∧ (∀ x ∈ pre.map (·.1), x ∉ (p :: post).map (·.1)) := by
  have hn := h.nd
  rw [e, List.map_append, List.nodup_append] at hn
  refine ⟨fun hp => hn.2.2 _ hp _ List.mem_cons_self rfl, ?_, fun x hx hq => hn.2.2 _ hx _ hq rfl⟩
  have := hn.2.1
  rw [List.map_cons, List.nodup_cons] at this
  exact this.1
/-- Where one stands, its container's answer stands already. -/
theorem RInv.gone_home (h : RInv t mm) {n : Int} {pre post : Noted} {p : Int × CR} (e : mm = pre ++ p :: post) : goneF n pre p.2.home = goneF n mm p.2.home := by
  have hz := h.zero
  rw [show goneF n mm p.2.home = (p :: post).foldl (goneP n) (goneF n pre) p.2.home by rw [e]; unfold goneF; rw [List.foldl_append]]
  refine (fold_not _ _ ?_).symm
  rcases h.up pre p post e with h1 | ⟨q, hq, h1, _⟩
  · rw [h1.2]
    intro hm
    exact hz (by rw [e, List.map_append]; exact List.mem_append_right _ hm)
  · exact (h.nd2 e).2.2 _ (List.mem_map.2 ⟨q, hq, h1⟩)
theorem RInv.gone (h : RInv t mm) {n : Int} {p : Int × CR} (hp : p ∈ mm) : goneF n mm p.1 = (p.1 == n || goneF n mm p.2.home) := by
  obtain ⟨pre, post, e⟩ := mem_split2 hp
  rw [← h.gone_home e]
  rw [show goneF n mm p.1 = post.foldl (goneP n) (goneP n (goneF n pre) p) p.1 by rw [e]; unfold goneF; rw [List.foldl_append, List.foldl_cons]]
  rw [fold_not _ _ (h.nd2 e).2.1]
  exact if_pos rfl
theorem RInv.g0 (h : RInv t mm) {n : Int} : goneF n mm 0 = false := gone_out h.zero
/-- Its container does not go with it. -/
theorem RInv.stays (h : RInv t mm) {p : Int × CR} (hp : p ∈ mm) : goneF p.1 mm p.2.home = false := by
  obtain ⟨pre, post, e⟩ := mem_split2 hp
  rw [← h.gone_home e]
  exact gone_none (h.nd2 e).1 _
theorem RInv.uniq (h : RInv t mm) {p q : Int × CR} (hp : p ∈ mm) (hq : q ∈ mm) (e : p.1 = q.1) : p = q := by
  have h1 := mm_some h.nd hp
  rw [e, mm_some h.nd hq] at h1
  injection h1 with h1
  exact Prod.ext e h1.symm
theorem RInv.objs (h : RInv t mm) {x : Int} (hx : x ∈ mm.map (·.1)) : ∃ th, (x, crOf mm x) ∈ mm ∧ t.tm.lookup x = some (lookG t x) ∧ t.ob (lookG t x) = some ⟨x, (crOf mm x).what, (crOf mm x).home, kidsOf mm x, th⟩ := by
  obtain ⟨p, hp, rfl⟩ := List.mem_map.1 hx
  obtain ⟨g, th, a1, a2⟩ := h.ob p hp
  have e := cr_mem h.nd hp
  have h2 := look_some (t := t) (n := p.1) (by rw [h.keys]; exact hx)
  rw [a1] at h2
  injection h2 with h2
  exact ⟨th, by rw [e]; exact hp, by rw [a1, h2], by rw [← h2, a2, e]⟩
/-- The table's names, one behind the other, as they go. -/
structure Bfs (mm : Noted) (n : Int) (ns : List Int) (i : Nat) : Prop where
  hd : ns[0]? = some n
  le : i ≤ ns.length
  nd : ns.Nodup
  gn : ∀ x ∈ ns, x ∈ mm.map (·.1) ∧ goneF n mm x = true
  hm : ∀ j x, ns[j]? = some x → 0 < j → ∃ a, a < i ∧ a < j ∧ ns[a]? = some (crOf mm x).home
  cl : ∀ a x, a < i → ns[a]? = some x → ∀ k ∈ kidsOf mm x, k ∈ ns
theorem nd_at {ns : List Int} (h : ns.Nodup) {a b : Nat} {x : Int} (ha : ns[a]? = some x) (hb : ns[b]? = some x) : a = b := by
  obtain ⟨h1, h2⟩ := List.getElem?_eq_some_iff.1 ha
  obtain ⟨h3, h4⟩ := List.getElem?_eq_some_iff.1 hb
  exact (List.getElem_inj h).1 (h2.trans h4.symm)
theorem Bfs.new (h : RInv t mm) {n : Int} {ns : List Int} {i : Nat} (hB : Bfs mm n ns i) {x : Int} (hx : ns[i]? = some x) : ∀ k ∈ kidsOf mm x, k ∉ ns := fun k hk hkn => by
  obtain ⟨p, hp, rfl, hh⟩ := kids_mem.1 hk
  obtain ⟨j, hj⟩ := List.getElem?_of_mem hkn
  cases j with
  | zero =>
    rw [hB.hd] at hj
    injection hj with hj
    subst hj
    have h1 := h.stays hp
    rw [hh, (hB.gn x (List.mem_of_getElem? hx)).2] at h1
    cases h1
  | succ j =>
    obtain ⟨a, ha, _, hq⟩ := hB.hm _ _ hj (Nat.succ_pos j)
    rw [cr_mem h.nd hp, hh] at hq
    have := nd_at hB.nd hq hx
    omega
theorem Bfs.step (h : RInv t mm) {n : Int} {ns : List Int} {i : Nat} (hB : Bfs mm n ns i) {x : Int} (hx : ns[i]? = some x) : Bfs mm n (ns ++ kidsOf mm x) (i + 1) := by
  have hlt : i < ns.length := (List.getElem?_eq_some_iff.1 hx).1
  have hap : ∀ {a : Nat} {y : Int}, ns[a]? = some y → (ns ++ kidsOf mm x)[a]? = some y := fun {a y} ha => by
    rw [List.getElem?_append_left (List.getElem?_eq_some_iff.1 ha).1]; exact ha
  refine ⟨hap hB.hd, by rw [List.length_append]; omega, ?_, fun y hy => ?_, fun j y hj h0 => ?_, fun a y ha hy k hk => ?_⟩
  · rw [List.nodup_append]
    exact ⟨hB.nd, h.nd.sublist (kids_sub mm x), fun a ha b hb e => hB.new h hx b hb (e ▸ ha)⟩
  · rcases List.mem_append.1 hy with hy | hy
    · exact hB.gn y hy
    · obtain ⟨p, hp, rfl, hh⟩ := kids_mem.1 hy
      refine ⟨List.mem_map.2 ⟨p, hp, rfl⟩, ?_⟩
      rw [h.gone hp, hh, (hB.gn x (List.mem_of_getElem? hx)).2, Bool.or_true]
  · by_cases hjl : j < ns.length
    · rw [List.getElem?_append_left hjl] at hj
      obtain ⟨a, h1, h2, h3⟩ := hB.hm j y hj h0
      exact ⟨a, by omega, h2, hap h3⟩
    · rw [List.getElem?_append_right (by omega)] at hj
      obtain ⟨p, hp, rfl, hh⟩ := kids_mem.1 (List.mem_of_getElem? hj)
      exact ⟨i, by omega, by omega, by rw [cr_mem h.nd hp, hh]; exact hap hx⟩
  · by_cases e : a = i
    · subst e
      rw [hap hx] at hy
      injection hy with hy
      subst hy
      exact List.mem_append_right _ hk
    · have hal : a < ns.length := by omega
      rw [List.getElem?_append_left hal] at hy
      exact List.mem_append_left _ (hB.cl a y (by omega) hy k hk)
theorem Bfs.len (_ : RInv t mm) {n : Int} {ns : List Int} {i : Nat} (hB : Bfs mm n ns i) : ns.length ≤ mm.length := by
  have := nd_len hB.nd (fun x hx => (hB.gn x hx).1)
  simpa using this
theorem pops_nms {tm : List (Int × Nat)} {f : Int → Nat} : ∀ ks : List Int, (∀ k ∈ ks, tm.lookup k = some (f k)) → pops tm ks = some (ks.map f)
  | [], _ => rfl
  | k :: ks, h => by
    unfold pops
    rw [h k List.mem_cons_self, pops_nms ks fun y hy => h y (List.mem_cons_of_mem _ hy)]
    rfl
def tmI (t : Tab) (ns : List Int) (i : Nat) : List (Int × Nat) := t.tm.filter fun p => !(ns.take i).contains p.1
theorem tmI_next {ns : List Int} {i : Nat} {x : Int} (hx : ns[i]? = some x) : delT (tmI t ns i) x = tmI t ns (i + 1) := by
  unfold delT tmI
  rw [List.filter_filter]
  refine List.filter_congr fun p _ => ?_
  rw [List.take_add_one, hx]
  simp only [Option.toList_some, List.contains_append]
  rw [Bool.not_or, Bool.and_comm]
  congr 1
  simp
  rfl
theorem tmI_app {ns ks : List Int} {i : Nat} (hi : i ≤ ns.length) : tmI t (ns ++ ks) i = tmI t ns i := by
  unfold tmI
  rw [List.take_append_of_le_length hi]
/-- All that go, go. -/
theorem bfs_run (h : RInv t mm) {n : Int} {ob : Nat → Option TO} (hob : ∀ x ∈ mm.map (·.1), goneF n mm x = true → ∃ o, ob (lookG t x) = some o ∧ o.name = x ∧ o.kids = kidsOf mm x) : ∀ (f i : Nat) (ns : List Int), Bfs mm n ns i → mm.length + 1 ≤ f + i → ∃ ns', remL ob f (tmI t ns i) (ns.map (lookG t)) i = some (tmI t ns' ns'.length, ns'.map (lookG t)) ∧ Bfs mm n ns' ns'.length
  | 0, i, ns, hB, hf => by
    have h1 := hB.le
    have h2 := hB.len h
    omega
  | f + 1, i, ns, hB, hf => by
    unfold remL
    by_cases hi : i < ns.length
    · obtain ⟨x, hx⟩ : ∃ x, ns[i]? = some x := ⟨_, List.getElem?_eq_getElem hi⟩
      obtain ⟨o, h1, h2, h3⟩ := hob x (hB.gn x (List.mem_of_getElem? hx)).1 (hB.gn x (List.mem_of_getElem? hx)).2
      obtain ⟨ns', h4, h5⟩ := bfs_run h hob f (i + 1) _ (hB.step h hx) (by omega)
      refine ⟨ns', ?_, h5⟩
      rw [List.getElem?_map, hx]
      simp only [Option.map_some, h1, h2, h3, tmI_next hx]
      rw [pops_nms (f := lookG t) _ fun k hk => ?_]
      · rw [tmI_app (by omega), List.map_append] at h4
        exact h4
      · unfold tmI
        rw [look_filter (fun y => !(ns.take (i + 1)).contains y), if_pos]
        · obtain ⟨p, hp, rfl, _⟩ := kids_mem.1 hk
          exact look_some (by rw [h.keys]; exact List.mem_map.2 ⟨p, hp, rfl⟩)
        · have h6 := hB.new h hx k hk
          have : k ∉ ns.take (i + 1) := fun hm => h6 (List.mem_of_mem_take hm)
          simpa using this
    · have e : i = ns.length := by have := hB.le; omega
      subst e
      refine ⟨ns, ?_, hB⟩
      rw [List.getElem?_eq_none (by rw [List.length_map]; omega)]
/-- Just those go that are said to go. -/
theorem Bfs.all (h : RInv t mm) {n : Int} {ns : List Int} (hB : Bfs mm n ns ns.length) : ∀ (k i : Nat) (p : Int × CR), i < k → mm[i]? = some p → goneF n mm p.1 = true → p.1 ∈ ns
  | 0, i, p, hk, _, _ => absurd hk (Nat.not_lt_zero i)
  | k + 1, i, p, hk, hp, hg => by
    have hpm := List.mem_of_getElem? hp
    rw [h.gone hpm, Bool.or_eq_true] at hg
    rcases hg with hg | hg
    · have e : p.1 = n := by simpa using hg
      rw [e]; exact List.mem_of_getElem? hB.hd
    · have hil := (List.getElem?_eq_some_iff.1 hp).1
      have es : mm = mm.take i ++ p :: mm.drop (i + 1) := by
        rw [← (List.getElem?_eq_some_iff.1 hp).2, ← List.drop_eq_getElem_cons hil, List.take_append_drop]
      rcases h.up _ _ _ es with h1 | ⟨q, hq, h1, _⟩
      · rw [h1.2, h.g0] at hg; cases hg
      · obtain ⟨j, hj⟩ := List.getElem?_of_mem hq
        have hj2 : j < i := by
          have := (List.getElem?_eq_some_iff.1 hj).1
          rw [List.length_take] at this
          omega
        rw [List.getElem?_take, if_pos hj2] at hj
        have hqn := Bfs.all h hB k j q (by omega) hj (by rw [h1]; exact hg)
        obtain ⟨a, ha⟩ := List.getElem?_of_mem hqn
        exact hB.cl a q.1 (List.getElem?_eq_some_iff.1 ha).1 ha p.1 (kids_mem.2 ⟨p, hpm, rfl, h1.symm⟩)
theorem up_filter (h : RInv t mm) {n : Int} : Up (mm.filter fun p => !goneF n mm p.1) := fun pre p post e => by
  obtain ⟨l1, l2, e1, e2, e3⟩ := List.filter_eq_append_iff.1 e
  obtain ⟨m1, m2, e4, e5, e6, _⟩ := List.filter_eq_cons_iff.1 e3
  have es : mm = (l1 ++ m1) ++ p :: m2 := by rw [e1, e4, List.append_assoc]
  have hpm : p ∈ mm := by rw [es]; exact List.mem_append_right _ List.mem_cons_self
  rcases h.up _ _ _ es with h1 | ⟨q, hq, h1, h2⟩
  · exact .inl h1
  · have hg : goneF n mm q.1 = false := by
      have e6' : goneF n mm p.1 = false := by simpa using e6
      rw [h.gone hpm, Bool.or_eq_false_iff] at e6'
      rw [h1]; exact e6'.2
    rcases List.mem_append.1 hq with hq | hq
    · exact .inr ⟨q, by rw [← e2]; exact List.mem_filter.2 ⟨hq, by simp [hg]⟩, h1, h2⟩
    · exact absurd (by simp [hg]) (e5 q hq)
theorem kids_filter (h : RInv t mm) {n : Int} {x : Int} (hx : goneF n mm x = false) : kidsOf (mm.filter fun p => !goneF n mm p.1) x = (kidsOf mm x).filter (· != n) := by
  unfold kidsOf
  rw [List.filter_filter, List.filter_map, List.filter_filter]
  congr 1
  refine List.filter_congr fun q hq => ?_
  show (q.2.home == x && !goneF n mm q.1) = ((q.1 != n) && (q.2.home == x))
  by_cases e : q.2.home = x
  · rw [h.gone hq, e, hx, Bool.or_false, beq_self_eq_true, Bool.true_and, Bool.and_true]; rfl
  · rw [show (q.2.home == x) = false by simpa using e, Bool.false_and, Bool.and_false]
/-- What is taken away. -/
structure Gone (t : Tab) (mm : Noted) (n : Int) (o : TO) (ns : List Int) : Prop where
  len : ns.length = (mm.filter fun p => goneF n mm p.1).length
  le : ns.length ≤ 16
  ob : ∀ i x, ns[i]? = some x → ∃ q, remO t n o (lookG t x) = some q ∧ q.name = x ∧ goneF n mm x = true ∧ x ∉ ns.take i ∧ (0 < i → q.home ∈ ns.take i)
theorem RInv.rem (h : RInv t mm) {n : Int} (hn : n ∈ mm.map (·.1)) : ∃ g o tm' ns f, t.tm.lookup n = some g ∧ t.ob g = some o ∧ remL (remO t n o) f t.tm [g] 0 = some (tm', ns.map (lookG t)) ∧ Gone t mm n o ns ∧ RInv ⟨tm', remO t n o⟩ (mm.filter fun p => !goneF n mm p.1) := by
  obtain ⟨th, hpn, h1, h2⟩ := h.objs hn
  have hgn : goneF n mm n = true := by
    have := h.gone (n := n) hpn
    rw [this]; simp
  have hst : goneF n mm (crOf mm n).home = false := h.stays hpn
  -- the container's row, and nothing else, is laid anew
  have hrem : ∀ x ∈ mm.map (·.1), ∃ th', remO t n ⟨n, (crOf mm n).what, (crOf mm n).home, kidsOf mm n, th⟩ (lookG t x) = some ⟨x, (crOf mm x).what, (crOf mm x).home, if x = (crOf mm n).home then (kidsOf mm x).filter (· != n) else kidsOf mm x, th'⟩ := fun x hx => by
    obtain ⟨thx, a1, a2, a3⟩ := h.objs hx
    refine ⟨thx, ?_⟩
    unfold remO homeOf
    dsimp only
    rcases h.homes hpn with h0 | hh
    · rw [h0, h.gone0 h.zero]
      dsimp only
      rw [a3, if_neg (by intro e; first | exact h.zero (e ▸ hx) | (rw [show (crOf mm n).home = 0 from h0] at e; exact h.zero (e ▸ hx)))]
    · obtain ⟨thh, b1, b2, b3⟩ := h.objs hh
      dsimp only at b1 b2 b3
      rw [b2]
      simp only [b3, Option.map_some]
      by_cases e : x = (crOf mm n).home
      · subst e
        rw [upd_self, if_pos rfl]
        rw [a3] at b3
        injection b3 with b3
        injection b3 with _ _ _ _ b3
        rw [b3]
      · rw [if_neg e, upd_ne, a3]
        intro e2
        rw [e2, b3] at a3
        injection a3 with a3
        injection a3 with a3
        exact e a3.symm
  obtain ⟨ns, r1, r2⟩ := bfs_run h (n := n) (ob := remO t n ⟨n, (crOf mm n).what, (crOf mm n).home, kidsOf mm n, th⟩) (fun x hx hg => by
    obtain ⟨th', e⟩ := hrem x hx
    exact ⟨_, e, rfl, if_neg (fun e => by rw [e, hst] at hg; cases hg)⟩) (mm.length + 1) 0 [n] ⟨rfl, Nat.zero_le _, by simp, fun x hx => by rw [List.mem_singleton.1 hx]; exact ⟨hn, hgn⟩, fun j x hj h0 => (by rw [show [n][j]? = none from List.getElem?_eq_none (show 1 ≤ j from h0)] at hj; cases hj), fun a x ha => absurd ha (Nat.not_lt_zero a)⟩ (by omega)
  rw [show tmI t [n] 0 = t.tm by unfold tmI; simp] at r1
  have hmem : ∀ p ∈ mm, (p.1 ∈ ns ↔ goneF n mm p.1 = true) := fun p hp => ⟨fun hq => (r2.gn _ hq).2, fun hg => by
    obtain ⟨i, hi⟩ := List.getElem?_of_mem hp
    exact r2.all h (i + 1) i p (Nat.lt_succ_self i) hi hg⟩
  have hkey : ∀ x ∈ mm.map (·.1), (ns.contains x) = goneF n mm x := fun x hx => by
    obtain ⟨p, hp, rfl⟩ := List.mem_map.1 hx
    rw [Bool.eq_iff_iff, List.contains_iff_mem]
    exact hmem p hp
  refine ⟨lookG t n, _, tmI t ns ns.length, ns, mm.length + 1, h1, h2, r1, ⟨?_, Nat.le_trans (r2.len h) h.le16, fun i x hx => ?_⟩, ?_⟩
  · have hp : ns.Perm ((mm.filter fun p => goneF n mm p.1).map (·.1)) := by
      refine (List.perm_ext_iff_of_nodup r2.nd (h.nd.sublist ((List.filter_sublist).map _))).2 fun x => ?_
      constructor
      · intro hx
        obtain ⟨p, hp, rfl⟩ := List.mem_map.1 (r2.gn x hx).1
        exact List.mem_map.2 ⟨p, List.mem_filter.2 ⟨hp, (r2.gn _ hx).2⟩, rfl⟩
      · intro hx
        obtain ⟨p, hp, rfl⟩ := List.mem_map.1 hx
        obtain ⟨h3, h4⟩ := List.mem_filter.1 hp
        exact (hmem p h3).2 h4
    have := hp.length_eq
    rwa [List.length_map] at this
  · have hxm := List.mem_of_getElem? hx
    obtain ⟨th', e⟩ := hrem x (r2.gn x hxm).1
    refine ⟨_, e, rfl, (r2.gn x hxm).2, fun hm => ?_, fun h0 => ?_⟩
    · obtain ⟨j, hj⟩ := List.getElem?_of_mem hm
      have hji := (List.getElem?_eq_some_iff.1 hj).1
      rw [List.length_take] at hji
      rw [List.getElem?_take, if_pos (by omega)] at hj
      have := nd_at r2.nd hj hx
      omega
    · obtain ⟨a, _, ha, hq⟩ := r2.hm i x hx h0
      refine List.mem_of_getElem? (i := a) ?_
      rw [List.getElem?_take, if_pos ha]
      exact hq
  · have hlook : ∀ x ∈ mm.map (·.1), goneF n mm x = false → (tmI t ns ns.length).lookup x = some (lookG t x) := fun x hx hg => by
      unfold tmI
      rw [List.take_length, look_filter (fun y => !ns.contains y), if_pos (by rw [hkey x hx, hg]; rfl)]
      exact look_some (by rw [h.keys]; exact hx)
    refine ⟨?_, h.nd.sublist ((List.filter_sublist).map _), fun p hp => h.cr p (List.mem_filter.1 hp).1, fun p hp => ?_, up_filter h⟩
    · show (t.tm.filter fun p => !(ns.take ns.length).contains p.1).map (·.1) = _
      rw [List.take_length]
      have e1 : (t.tm.filter fun p => !ns.contains p.1).map (·.1) = (t.tm.map (·.1)).filter fun x => !ns.contains x := by rw [List.filter_map]; rfl
      have e2 : (mm.filter fun p => !goneF n mm p.1).map (·.1) = (mm.map (·.1)).filter fun x => !goneF n mm x := by rw [List.filter_map]; rfl
      rw [e1, e2, h.keys]
      exact List.filter_congr fun x hx => by rw [hkey x hx]
    · obtain ⟨hp1, hp2⟩ := List.mem_filter.1 hp
      have hpg : goneF n mm p.1 = false := by simpa using hp2
      have hpk : p.1 ∈ mm.map (·.1) := List.mem_map.2 ⟨p, hp1, rfl⟩
      obtain ⟨th', e⟩ := hrem p.1 hpk
      refine ⟨lookG t p.1, th', hlook p.1 hpk hpg, ?_⟩
      rw [kids_filter h hpg]
      show remO t n _ (lookG t p.1) = _
      rw [e, cr_mem h.nd hp1]
      split
      · rfl
      · rename_i hne
        congr 2
        refine (List.filter_eq_self.2 fun k hk => ?_).symm
        obtain ⟨q, hq, rfl, hh⟩ := kids_mem.1 hk
        simp only [bne_iff_ne]
        intro e2
        exact hne (by rw [← e2, cr_mem h.nd hq, hh])
end

end Go.Proofs.Ytbeeiecbbmiojaa.Y
