/- Labels in plain Lean: levels category by category, merging, turning, setting; when two are the same. No program in sight. -/

namespace Go.Proofs.Ytihddficgpjgpaa
/-- A label: a default, and pairs of a category and its level. -/
structure Lab where
  d : Int
  ps : List (Int × Int)
theorem Lab.eq_of {a b : Lab} (h1 : a.d = b.d) (h2 : a.ps = b.ps) : a = b := by
  cases a; cases b; simp_all
/-- A category's level. -/
def atP (d : Int) : List (Int × Int) → Int → Int
  | [], _ => d
  | p :: t, c => if p.1 = c then p.2 else atP d t c
def Lab.lv (l : Lab) (c : Int) : Int := atP l.d l.ps c
/-- The categories rise, each above m. -/
def Rise : Int → List (Int × Int) → Prop
  | _, [] => True
  | m, p :: t => m < p.1 ∧ Rise p.1 t
theorem Rise.mono : ∀ {ps : List (Int × Int)} {m m' : Int}, Rise m ps → m' ≤ m → Rise m' ps
  | [], _, _, _, _ => True.intro
  | _ :: _, _, _, h, hm => ⟨by have := h.1; omega, h.2⟩
theorem Rise.lt : ∀ {ps : List (Int × Int)} {m : Int}, Rise m ps → ∀ p ∈ ps, m < p.1
  | [], _, _, p, hp => by cases hp
  | q :: t, m, h, p, hp => by
    rcases List.mem_cons.1 hp with rfl | hp
    · exact h.1
    · have h1 := h.1
      have := Rise.lt h.2 p hp
      omega
theorem atP_low (d : Int) : ∀ {ps : List (Int × Int)} {m c : Int}, Rise m ps → c ≤ m → atP d ps c = d
  | [], _, _, _, _ => rfl
  | p :: t, m, c, h, hc => by
    have h1 := h.1
    rw [atP, if_neg (by omega)]
    exact atP_low d h.2 (by omega)
theorem atP_none (d : Int) : ∀ {ps : List (Int × Int)} {c : Int}, (∀ p ∈ ps, p.1 ≠ c) → atP d ps c = d
  | [], _, _ => rfl
  | p :: t, c, h => by
    rw [atP, if_neg (h p (by simp))]
    exact atP_none d (fun q hq => h q (by simp [hq]))
theorem atP_mem (d : Int) : ∀ {ps : List (Int × Int)} {m : Int}, Rise m ps → ∀ p ∈ ps, atP d ps p.1 = p.2
  | [], _, _, p, hp => by cases hp
  | q :: t, m, h, p, hp => by
    rcases List.mem_cons.1 hp with rfl | hp
    · simp [atP]
    · have := Rise.lt h.2 p hp
      rw [atP, if_neg (by omega)]
      exact atP_mem d h.2 p hp
/-- Rising categories from 1 on, none of the default's level. -/
structure Good (l : Lab) : Prop where
  rise : Rise 0 l.ps
  neq : ∀ p ∈ l.ps, p.2 ≠ l.d
theorem lv_zero {l : Lab} (h : Good l) {c : Int} (hc : c ≤ 0) : l.lv c = l.d := atP_low _ h.rise hc
theorem ps_ext (d : Int) : ∀ {ps qs : List (Int × Int)} {m : Int}, Rise m ps → Rise m qs → (∀ p ∈ ps, p.2 ≠ d) → (∀ p ∈ qs, p.2 ≠ d) → (∀ c, atP d ps c = atP d qs c) → ps = qs
  | [], [], _, _, _, _, _, _ => rfl
  | [], q :: u, m, _, hq, _, hnq, h => by
    have := h q.1
    simp [atP] at this
    exact absurd this.symm (hnq q (by simp))
  | p :: t, [], m, _, _, hnp, _, h => by
    have := h p.1
    simp [atP] at this
    exact absurd this (hnp p (by simp))
  | p :: t, q :: u, m, hp, hq, hnp, hnq, h => by
    have h0 := h p.1
    have h1 := h q.1
    rcases Int.lt_trichotomy p.1 q.1 with hlt | heq | hgt
    · have e : atP d (q :: u) p.1 = d := by
        rw [atP, if_neg (by omega)]
        exact atP_low d hq.2 (by omega)
      rw [e] at h0
      simp [atP] at h0
      exact absurd h0 (hnp p (by simp))
    · obtain ⟨k, x⟩ := p
      obtain ⟨k', y⟩ := q
      simp only at heq
      subst heq
      simp [atP] at h0
      subst h0
      have := ps_ext d (ps := t) (qs := u) (m := k) hp.2 hq.2 (fun r hr => hnp r (by simp [hr])) (fun r hr => hnq r (by simp [hr])) (fun c => by
        have hc := h c
        by_cases e : k = c
        · subst e
          rw [atP_low d hp.2 (Int.le_refl _), atP_low d hq.2 (Int.le_refl _)]
        · simpa [atP, e] using hc)
      rw [this]
    · have e : atP d (p :: t) q.1 = d := by
        rw [atP, if_neg (by omega)]
        exact atP_low d hp.2 (by omega)
      rw [e] at h1
      simp [atP] at h1
      exact absurd h1.symm (hnq q (by simp))
/-- Two labels are the same, if they are so category by category. -/
theorem ext {a b : Lab} (ha : Good a) (hb : Good b) (h : ∀ c, a.lv c = b.lv c) : a = b := by
  have hd : a.d = b.d := by rw [← lv_zero ha (Int.le_refl 0), ← lv_zero hb (Int.le_refl 0)]; exact h 0
  refine Lab.eq_of hd (ps_ext a.d ha.rise hb.rise ha.neq (by rw [hd]; exact hb.neq) fun c => ?_)
  have := h c
  unfold Lab.lv at this
  rw [this, hd]
/-- What both lists name, rising: a category and its two levels. -/
def bothP (da db : Int) : List (Int × Int) → List (Int × Int) → List (Int × Int × Int)
  | [], [] => []
  | p :: t, [] => (p.1, p.2, db) :: bothP da db t []
  | [], q :: u => (q.1, da, q.2) :: bothP da db [] u
  | p :: t, q :: u =>
    if p.1 < q.1 then (p.1, p.2, db) :: bothP da db t (q :: u)
    else if q.1 < p.1 then (q.1, da, q.2) :: bothP da db (p :: t) u
    else (p.1, p.2, q.2) :: bothP da db t u
termination_by a b => a.length + b.length
def Rise3 : Int → List (Int × Int × Int) → Prop
  | _, [] => True
  | m, p :: t => m < p.1 ∧ Rise3 p.1 t
theorem Rise3.lt : ∀ {ps : List (Int × Int × Int)} {m : Int}, Rise3 m ps → ∀ p ∈ ps, m < p.1
  | [], _, _, p, hp => by cases hp
  | q :: t, m, h, p, hp => by
    rcases List.mem_cons.1 hp with rfl | hp
    · exact h.1
    · have h1 := h.1
      have := Rise3.lt h.2 p hp
      omega
theorem bothP_rise (da db : Int) : ∀ (n : Nat) (ps qs : List (Int × Int)) (m : Int), ps.length + qs.length ≤ n → Rise m ps → Rise m qs → Rise3 m (bothP da db ps qs) := by
  intro n
  induction n with
  | zero =>
    intro ps qs m hn _ _
    obtain rfl := List.eq_nil_of_length_eq_zero (show ps.length = 0 by omega)
    obtain rfl := List.eq_nil_of_length_eq_zero (show qs.length = 0 by omega)
    simp [bothP, Rise3]
  | succ n ih =>
    intro ps qs m hn hp hq
    match ps, qs with
    | [], [] => simp [bothP, Rise3]
    | p :: t, [] => simp only [bothP]; exact ⟨hp.1, ih t [] _ (by simp at hn ⊢; omega) hp.2 True.intro⟩
    | [], q :: u => simp only [bothP]; exact ⟨hq.1, ih [] u _ (by simp at hn ⊢; omega) True.intro hq.2⟩
    | p :: t, q :: u =>
      simp only [bothP]
      simp only [List.length_cons] at hn
      split
      · rename_i hlt; exact ⟨hp.1, ih t (q :: u) _ (by simp; omega) hp.2 ⟨hlt, hq.2⟩⟩
      · split
        · rename_i hlt; exact ⟨hq.1, ih (p :: t) u _ (by simp; omega) ⟨hlt, hp.2⟩ hq.2⟩
        · have e : p.1 = q.1 := by omega
          exact ⟨hp.1, ih t u _ (by omega) hp.2 (by rw [e]; exact hq.2)⟩
/-- Each triple bears the two levels; each category with a pair is there. -/
theorem bothP_levels (da db : Int) : ∀ (n : Nat) (ps qs : List (Int × Int)) (m : Int), ps.length + qs.length ≤ n → Rise m ps → Rise m qs →
    (∀ x ∈ bothP da db ps qs, x.2.1 = atP da ps x.1 ∧ x.2.2 = atP db qs x.1) ∧ (∀ p ∈ ps, ∃ x ∈ bothP da db ps qs, x.1 = p.1) ∧ (∀ p ∈ qs, ∃ x ∈ bothP da db ps qs, x.1 = p.1) := by
  intro n
  induction n with
  | zero =>
    intro ps qs m hn _ _
    obtain rfl := List.eq_nil_of_length_eq_zero (show ps.length = 0 by omega)
    obtain rfl := List.eq_nil_of_length_eq_zero (show qs.length = 0 by omega)
    simp [bothP]
  | succ n ih =>
    intro ps qs m hn hp hq
    match ps, qs with
    | [], [] => simp [bothP]
    | p :: t, [] =>
      obtain ⟨h1, h2, _⟩ := ih t [] p.1 (by simp at hn ⊢; omega) hp.2 True.intro
      have hr := bothP_rise da db _ t [] p.1 (Nat.le_refl _) hp.2 True.intro
      simp only [bothP]
      refine ⟨?_, ?_, by simp⟩
      · intro x hx
        rcases List.mem_cons.1 hx with rfl | hx
        · simp [atP]
        · have := hr.lt x hx
          obtain ⟨e1, e2⟩ := h1 x hx
          exact ⟨by rw [atP, if_neg (by omega)]; exact e1, e2⟩
      · intro r hr'
        rcases List.mem_cons.1 hr' with rfl | hr'
        · exact ⟨_, List.mem_cons_self, rfl⟩
        · obtain ⟨x, hx, e⟩ := h2 r hr'
          exact ⟨x, List.mem_cons_of_mem _ hx, e⟩
    | [], q :: u =>
      obtain ⟨h1, _, h3⟩ := ih [] u q.1 (by simp at hn ⊢; omega) True.intro hq.2
      have hr := bothP_rise da db _ [] u q.1 (Nat.le_refl _) True.intro hq.2
      simp only [bothP]
      refine ⟨?_, by simp, ?_⟩
      · intro x hx
        rcases List.mem_cons.1 hx with rfl | hx
        · simp [atP]
        · have := hr.lt x hx
          obtain ⟨e1, e2⟩ := h1 x hx
          exact ⟨e1, by rw [atP, if_neg (by omega)]; exact e2⟩
      · intro r hr'
        rcases List.mem_cons.1 hr' with rfl | hr'
        · exact ⟨_, List.mem_cons_self, rfl⟩
        · obtain ⟨x, hx, e⟩ := h3 r hr'
          exact ⟨x, List.mem_cons_of_mem _ hx, e⟩
    | p :: t, q :: u =>
      simp only [List.length_cons] at hn
      rw [bothP]
      split
      · rename_i hlt
        have hq' : Rise p.1 (q :: u) := ⟨hlt, hq.2⟩
        obtain ⟨h1, h2, h3⟩ := ih t (q :: u) p.1 (by simp; omega) hp.2 hq'
        have hr := bothP_rise da db _ t (q :: u) p.1 (Nat.le_refl _) hp.2 hq'
        refine ⟨?_, ?_, ?_⟩
        · intro x hx
          rcases List.mem_cons.1 hx with rfl | hx
          · exact ⟨by simp [atP], (atP_low db hq' (Int.le_refl _)).symm⟩
          · have := hr.lt x hx
            obtain ⟨e1, e2⟩ := h1 x hx
            exact ⟨by rw [atP, if_neg (by omega)]; exact e1, e2⟩
        · intro r hr'
          rcases List.mem_cons.1 hr' with rfl | hr'
          · exact ⟨_, List.mem_cons_self, rfl⟩
          · obtain ⟨x, hx, e⟩ := h2 r hr'
            exact ⟨x, List.mem_cons_of_mem _ hx, e⟩
        · intro r hr'
          obtain ⟨x, hx, e⟩ := h3 r hr'
          exact ⟨x, List.mem_cons_of_mem _ hx, e⟩
      · split
        · rename_i hlt
          have hp' : Rise q.1 (p :: t) := ⟨hlt, hp.2⟩
          obtain ⟨h1, h2, h3⟩ := ih (p :: t) u q.1 (by simp; omega) hp' hq.2
          have hr := bothP_rise da db _ (p :: t) u q.1 (Nat.le_refl _) hp' hq.2
          refine ⟨?_, ?_, ?_⟩
          · intro x hx
            rcases List.mem_cons.1 hx with rfl | hx
            · exact ⟨(atP_low da hp' (Int.le_refl _)).symm, by simp [atP]⟩
            · have := hr.lt x hx
              obtain ⟨e1, e2⟩ := h1 x hx
              exact ⟨e1, by rw [atP, if_neg (by omega)]; exact e2⟩
          · intro r hr'
            obtain ⟨x, hx, e⟩ := h2 r hr'
            exact ⟨x, List.mem_cons_of_mem _ hx, e⟩
          · intro r hr'
            rcases List.mem_cons.1 hr' with rfl | hr'
            · exact ⟨_, List.mem_cons_self, rfl⟩
            · obtain ⟨x, hx, e⟩ := h3 r hr'
              exact ⟨x, List.mem_cons_of_mem _ hx, e⟩
        · have e : p.1 = q.1 := by omega
          have hq' : Rise p.1 u := by rw [e]; exact hq.2
          obtain ⟨h1, h2, h3⟩ := ih t u p.1 (by omega) hp.2 hq'
          have hr := bothP_rise da db _ t u p.1 (Nat.le_refl _) hp.2 hq'
          refine ⟨?_, ?_, ?_⟩
          · intro x hx
            rcases List.mem_cons.1 hx with rfl | hx
            · exact ⟨by simp [atP], by simp [atP, e]⟩
            · have := hr.lt x hx
              obtain ⟨e1, e2⟩ := h1 x hx
              exact ⟨by rw [atP, if_neg (by omega)]; exact e1, by rw [atP, if_neg (by omega)]; exact e2⟩
          · intro r hr'
            rcases List.mem_cons.1 hr' with rfl | hr'
            · exact ⟨_, List.mem_cons_self, rfl⟩
            · obtain ⟨x, hx, e⟩ := h2 r hr'
              exact ⟨x, List.mem_cons_of_mem _ hx, e⟩
          · intro r hr'
            rcases List.mem_cons.1 hr' with rfl | hr'
            · exact ⟨_, List.mem_cons_self, e⟩
            · obtain ⟨x, hx, e⟩ := h3 r hr'
              exact ⟨x, List.mem_cons_of_mem _ hx, e⟩
/-- What is gone over: the defaults as category 0, then what both name. -/
def bothL (a b : Lab) : List (Int × Int × Int) := (0, a.d, b.d) :: bothP a.d b.d a.ps b.ps
theorem bothL_levels {a b : Lab} (ha : Good a) (hb : Good b) : (∀ x ∈ bothL a b, x.2.1 = a.lv x.1 ∧ x.2.2 = b.lv x.1) ∧ ∀ c, ∃ x ∈ bothL a b, a.lv x.1 = a.lv c ∧ b.lv x.1 = b.lv c := by
  obtain ⟨h1, h2, h3⟩ := bothP_levels a.d b.d _ a.ps b.ps 0 (Nat.le_refl _) ha.rise hb.rise
  refine ⟨?_, ?_⟩
  · intro x hx
    rcases List.mem_cons.1 hx with rfl | hx
    · exact ⟨(lv_zero ha (Int.le_refl 0)).symm, (lv_zero hb (Int.le_refl 0)).symm⟩
    · exact h1 x hx
  · intro c
    by_cases hc : (∃ p ∈ a.ps, p.1 = c) ∨ (∃ p ∈ b.ps, p.1 = c)
    · rcases hc with ⟨p, hp, rfl⟩ | ⟨p, hp, rfl⟩
      · obtain ⟨x, hx, e⟩ := h2 p hp
        exact ⟨x, List.mem_cons_of_mem _ hx, by rw [e], by rw [e]⟩
      · obtain ⟨x, hx, e⟩ := h3 p hp
        exact ⟨x, List.mem_cons_of_mem _ hx, by rw [e], by rw [e]⟩
    · refine ⟨_, List.mem_cons_self, ?_, ?_⟩
      · rw [lv_zero ha (Int.le_refl 0)]
        exact (atP_none _ (fun p hp e => hc (.inl ⟨p, hp, e⟩))).symm
      · rw [lv_zero hb (Int.le_refl 0)]
        exact (atP_none _ (fun p hp e => hc (.inr ⟨p, hp, e⟩))).symm
def leqB (a b : Lab) : Bool := (bothL a b).all fun x => decide (x.2.1 ≤ x.2.2)
theorem leqB_iff {a b : Lab} (ha : Good a) (hb : Good b) : leqB a b = true ↔ ∀ c, a.lv c ≤ b.lv c := by
  obtain ⟨h1, h2⟩ := bothL_levels ha hb
  unfold leqB
  rw [List.all_eq_true]
  constructor
  · intro h c
    obtain ⟨x, hx, e1, e2⟩ := h2 c
    have := h x hx
    rw [decide_eq_true_eq, (h1 x hx).1, (h1 x hx).2, e1, e2] at this
    exact this
  · intro h x hx
    rw [decide_eq_true_eq, (h1 x hx).1, (h1 x hx).2]
    exact h x.1
/-- A label of levels made of two others'. -/
def mergeL (f : Int → Int → Int) (a b : Lab) : Lab :=
  ⟨f a.d b.d, ((bothP a.d b.d a.ps b.ps).map fun x => (x.1, f x.2.1 x.2.2)).filter fun p => decide (p.2 ≠ f a.d b.d)⟩
theorem atP_filter (d : Int) : ∀ {ps : List (Int × Int)} {m : Int} (c : Int), Rise m ps → atP d (ps.filter fun p => decide (p.2 ≠ d)) c = atP d ps c
  | [], _, _, _ => rfl
  | p :: t, m, c, h => by
    have ih := atP_filter d (ps := t) c h.2
    by_cases e : p.2 = d
    · have : (List.filter (fun p => decide (p.2 ≠ d)) (p :: t)) = List.filter (fun p => decide (p.2 ≠ d)) t := by simp [e]
      rw [this, ih, atP]
      by_cases e2 : p.1 = c
      · rw [if_pos e2, e, ← e2]
        exact atP_low d h.2 (Int.le_refl _)
      · rw [if_neg e2]
    · have : (List.filter (fun p => decide (p.2 ≠ d)) (p :: t)) = p :: List.filter (fun p => decide (p.2 ≠ d)) t := by simp [e]
      rw [this, atP, atP, ih]
theorem rise_filter (g : Int × Int → Bool) : ∀ {ps : List (Int × Int)} {m : Int}, Rise m ps → Rise m (ps.filter g)
  | [], _, _ => True.intro
  | p :: t, m, h => by
    have ih := rise_filter g h.2
    rw [List.filter_cons]
    split
    · exact ⟨h.1, ih⟩
    · exact ih.mono (by have := h.1; omega)
theorem rise_map (g : Int × Int × Int → Int) : ∀ {ps : List (Int × Int × Int)} {m : Int}, Rise3 m ps → Rise m (ps.map fun x => (x.1, g x))
  | [], _, _ => True.intro
  | _ :: _, _, h => ⟨h.1, rise_map g h.2⟩
/-- A label of a default and of rising pairs, those of the default's level left out. -/
theorem good_filter (d : Int) {ps : List (Int × Int)} (h : Rise 0 ps) : Good ⟨d, ps.filter fun p => decide (p.2 ≠ d)⟩ :=
  ⟨rise_filter _ h, fun p hp => by simpa using (List.mem_filter.1 hp).2⟩
theorem lv_filter (d : Int) {ps : List (Int × Int)} (h : Rise 0 ps) (c : Int) : (Lab.mk d (ps.filter fun p => decide (p.2 ≠ d))).lv c = atP d ps c := atP_filter d c h
theorem good_merge (f : Int → Int → Int) {a b : Lab} (ha : Good a) (hb : Good b) : Good (mergeL f a b) :=
  good_filter _ (rise_map (fun x => f x.2.1 x.2.2) (bothP_rise _ _ _ _ _ _ (Nat.le_refl _) ha.rise hb.rise))
theorem atP_of (d : Int) {ps : List (Int × Int)} {m : Int} (h : Rise m ps) (c v : Int) (h1 : ∀ p ∈ ps, p.1 = c → p.2 = v) (h2 : (∀ p ∈ ps, p.1 ≠ c) → v = d) : atP d ps c = v := by
  by_cases hc : ∃ p ∈ ps, p.1 = c
  · obtain ⟨p, hp, rfl⟩ := hc
    rw [atP_mem d h p hp]
    exact h1 p hp rfl
  · have hc' : ∀ p ∈ ps, p.1 ≠ c := fun p hp e => hc ⟨p, hp, e⟩
    rw [atP_none d hc']
    exact (h2 hc').symm
theorem lv_merge (f : Int → Int → Int) {a b : Lab} (ha : Good a) (hb : Good b) (c : Int) : (mergeL f a b).lv c = f (a.lv c) (b.lv c) := by
  have hr := rise_map (fun x => f x.2.1 x.2.2) (bothP_rise a.d b.d _ _ _ _ (Nat.le_refl _) ha.rise hb.rise)
  obtain ⟨h1, h2, h3⟩ := bothP_levels a.d b.d _ a.ps b.ps 0 (Nat.le_refl _) ha.rise hb.rise
  refine (lv_filter _ hr c).trans (atP_of _ hr c _ ?_ ?_)
  · intro p hp e
    obtain ⟨x, hx, rfl⟩ := List.mem_map.1 hp
    obtain ⟨e1, e2⟩ := h1 x hx
    simp only at e ⊢
    rw [e1, e2, e]
    rfl
  · intro h
    have ea : a.lv c = a.d := atP_none _ (fun p hp e => by
      obtain ⟨x, hx, e2⟩ := h2 p hp
      exact h _ (List.mem_map.2 ⟨x, hx, rfl⟩) (by simp only; omega))
    have eb : b.lv c = b.d := atP_none _ (fun p hp e => by
      obtain ⟨x, hx, e2⟩ := h3 p hp
      exact h _ (List.mem_map.2 ⟨x, hx, rfl⟩) (by simp only; omega))
    rw [ea, eb]
theorem bothP_length (da db : Int) : ∀ (n : Nat) (ps qs : List (Int × Int)), ps.length + qs.length ≤ n → (bothP da db ps qs).length ≤ ps.length + qs.length := by
  intro n
  induction n with
  | zero =>
    intro ps qs hn
    obtain rfl := List.eq_nil_of_length_eq_zero (show ps.length = 0 by omega)
    obtain rfl := List.eq_nil_of_length_eq_zero (show qs.length = 0 by omega)
    simp [bothP]
  | succ n ih =>
    intro ps qs hn
    match ps, qs with
    | [], [] => simp [bothP]
    | p :: t, [] => have := ih t [] (by simp at hn ⊢; omega); simp [bothP] at this ⊢; omega
    | [], q :: u => have := ih [] u (by simp at hn ⊢; omega); simp [bothP] at this ⊢; omega
    | p :: t, q :: u =>
      simp only [List.length_cons] at hn
      rw [bothP]
      split
      · have := ih t (q :: u) (by simp; omega); simp at this ⊢; omega
      · split
        · have := ih (p :: t) u (by simp; omega); simp at this ⊢; omega
        · have := ih t u (by omega); simp at this ⊢; omega
theorem merge_length (f : Int → Int → Int) (a b : Lab) : (mergeL f a b).ps.length ≤ a.ps.length + b.ps.length := by
  unfold mergeL
  refine Nat.le_trans (List.length_filter_le _ _) ?_
  rw [List.length_map]
  exact bothP_length _ _ _ _ _ (Nat.le_refl _)
def turnF (f t x : Int) : Int := if x = f then t else x
def turnL (f t : Int) (l : Lab) : Lab := mergeL (fun x _ => turnF f t x) l l
def raiseL : Lab → Lab := turnL 0 5
def restL : Lab → Lab := turnL 0 2
theorem lv_turn (f t : Int) {l : Lab} (h : Good l) (c : Int) : (turnL f t l).lv c = turnF f t (l.lv c) := lv_merge _ h h c
theorem good_turn (f t : Int) {l : Lab} (h : Good l) : Good (turnL f t l) := good_merge _ h h
/-- The categories that are owned, rising. -/
def ownsL (l : Lab) : List Int := (l.ps.filter fun p => decide (p.2 = 0)).map (·.1)
/-- May it be a label? -/
def rightP (d : Int) : Int → List (Int × Int) → Bool
  | _, [] => true
  | m, p :: t => decide (m < p.1) && (decide (p.1 ≤ 1073741824) && (decide (0 ≤ p.2) && (decide (p.2 ≤ 4) && (decide (p.2 ≠ d) && rightP d p.1 t))))
def rightB (l : Lab) : Bool := decide (1 ≤ l.d) && (decide (l.d ≤ 4) && (decide (l.ps.length ≤ 12) && rightP l.d 0 l.ps))
theorem rightP_good (d : Int) : ∀ {ps : List (Int × Int)} {m : Int}, rightP d m ps = true → Rise m ps ∧ ∀ p ∈ ps, p.2 ≠ d ∧ 0 ≤ p.2 ∧ p.2 ≤ 4 ∧ p.1 ≤ 1073741824
  | [], _, _ => ⟨True.intro, by simp⟩
  | p :: t, m, h => by
    simp only [rightP, Bool.and_eq_true, decide_eq_true_eq] at h
    obtain ⟨h1, h2, h3, h4, h5, h6⟩ := h
    obtain ⟨i1, i2⟩ := rightP_good d h6
    refine ⟨⟨h1, i1⟩, fun q hq => ?_⟩
    rcases List.mem_cons.1 hq with rfl | hq
    · exact ⟨h5, h3, h4, h2⟩
    · exact i2 q hq
/-- Categories that rise, each above m. -/
def RiseC : Int → List Int → Prop
  | _, [] => True
  | m, c :: t => m < c ∧ RiseC c t
theorem rise_make (g : Int → Int) : ∀ {cs : List Int} {m : Int}, RiseC m cs → Rise m (cs.map fun c => (c, g c))
  | [], _, _ => True.intro
  | _ :: _, _, h => ⟨h.1, rise_make g h.2⟩
theorem RiseC.snoc : ∀ {cs : List Int} {m : Int}, RiseC m cs → ∀ c, m < c → (∀ x ∈ cs, x < c) → RiseC m (cs ++ [c])
  | [], _, _, c, hm, _ => ⟨hm, True.intro⟩
  | q :: t, m, h, c, _, hc => ⟨h.1, RiseC.snoc h.2 c (hc q (by simp)) (fun x hx => hc x (by simp [hx]))⟩
/-- A label of a default, and levels of categories that rise, those of the default's level left out. -/
def makeL (d : Int) (cs : List Int) (g : Int → Int) : Lab := ⟨d, (cs.map fun c => (c, g c)).filter fun p => decide (p.2 ≠ d)⟩
theorem good_make (d : Int) {cs : List Int} (g : Int → Int) (h : RiseC 0 cs) : Good (makeL d cs g) := good_filter d (rise_make g h)
theorem lv_make (d : Int) {cs : List Int} (g : Int → Int) (h : RiseC 0 cs) (c v : Int) (h1 : c ∈ cs → g c = v) (h2 : c ∉ cs → v = d) : (makeL d cs g).lv c = v := by
  refine (lv_filter d (rise_make g h) c).trans (atP_of _ (rise_make g h) c v ?_ ?_)
  · intro p hp e
    obtain ⟨x, hx, rfl⟩ := List.mem_map.1 hp
    simp only at e
    subst e
    exact h1 hx
  · intro hn
    exact h2 (fun hc => hn (c, g c) (List.mem_map.2 ⟨c, hc, rfl⟩) rfl)
/-- What two labels name. -/
def Names (a b : Lab) (cs : List Int) : Prop := RiseC 0 cs ∧ ∀ c, c ∈ cs ↔ (∃ p ∈ a.ps, p.1 = c) ∨ ∃ p ∈ b.ps, p.1 = c
theorem lv_none {l : Lab} {c : Int} (h : ¬ ∃ p ∈ l.ps, p.1 = c) : l.lv c = l.d := atP_none _ (fun p hp e => h ⟨p, hp, e⟩)
theorem make_turn (f t : Int) {l : Lab} (hl : Good l) {cs : List Int} (h : Names l ⟨0, []⟩ cs) : makeL (turnF f t l.d) cs (fun c => turnF f t (l.lv c)) = turnL f t l := by
  refine ext (good_make _ _ h.1) (good_turn f t hl) fun c => ?_
  rw [lv_turn f t hl]
  refine lv_make _ _ h.1 c _ (fun _ => rfl) (fun hc => ?_)
  have := (not_congr (h.2 c)).1 hc
  rw [lv_none (fun e => this (.inl e))]
theorem leq_names {a b : Lab} (ha : Good a) (hb : Good b) {cs : List Int} (h : Names a b cs) : (decide (a.d ≤ b.d) && cs.all fun c => decide (a.lv c ≤ b.lv c)) = leqB a b := by
  rw [Bool.eq_iff_iff, leqB_iff ha hb, Bool.and_eq_true, List.all_eq_true, decide_eq_true_eq]
  constructor
  · rintro ⟨h1, h2⟩ c
    by_cases hc : c ∈ cs
    · simpa using h2 c hc
    · have := (not_congr (h.2 c)).1 hc
      rw [lv_none (fun e => this (.inl e)), lv_none (fun e => this (.inr e))]
      exact h1
  · intro h'
    refine ⟨?_, fun c _ => by simpa using h' c⟩
    have := h' 0
    rwa [lv_zero ha (Int.le_refl 0), lv_zero hb (Int.le_refl 0)] at this
/-- Levels from 0 to n. -/
def Upto (n : Int) (l : Lab) : Prop := ∀ c, 0 ≤ l.lv c ∧ l.lv c ≤ n
theorem upto_of {l : Lab} {n : Int} (hd : 0 ≤ l.d ∧ l.d ≤ n) (h : ∀ p ∈ l.ps, 0 ≤ p.2 ∧ p.2 ≤ n) : Upto n l := by
  intro c
  unfold Lab.lv
  obtain ⟨d, ps⟩ := l
  simp only at *
  induction ps with
  | nil => exact hd
  | cons p t ih =>
    rw [atP]
    split
    · exact h p (by simp)
    · exact ih (fun q hq => h q (by simp [hq]))
end Go.Proofs.Ytihddficgpjgpaa
