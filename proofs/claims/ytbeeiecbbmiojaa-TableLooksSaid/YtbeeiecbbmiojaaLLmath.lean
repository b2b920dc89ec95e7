/- Lmath: the laws of labels, in this seat's numbers. -/

namespace Go.Proofs.Ytbeeiecbbmiojaa.Lb
/-- A label: a default, and pairs of a category and its level. -/
structure Lab where
  d : Int
  ps : List (Int × Int)
theorem Lab.eq_of {a b : Lab} (h1 : a.d = b.d) (h2 : a.ps = b.ps) : a = b := by
  cases a; cases b; simp_all
/-- A category's level. -/
def atP (d : Int) : List (Int × Int) → Int → Int
  | [], _ => d
  | p :: t, c => if p.1 = c then p.2 else atP d t c
/-- The categories rise, each above m. -/
def Rise : Int → List (Int × Int) → Prop
  | _, [] => True
  | m, p :: t => m < p.1 ∧ Rise p.1 t
theorem Rise.mono : ∀ {ps : List (Int × Int)} {m m' : Int}, Rise m ps → m' ≤ m → Rise m' ps
  | [], _, _, _, _ => True.intro
  | _ :: _, _, _, h, hm => ⟨by have := h.1; omega, h.2⟩
theorem Rise.lt : ∀ {ps : List (Int × Int)} {m : Int}, Rise m ps → ∀ p ∈ ps, m < p.1
  | [], _, _, p, hp => by cases hp
  | q :: t, m, h, p, hp => by
    rcases List.mem_cons.1 hp with rfl | hp
    · exact h.1
    · have h1 := h.1
      have := Rise.lt h.2 p hp
      omega
/-- Rising categories from 1 on, none of the default's level. -/
structure Good (l : Lab) : Prop where
  rise : Rise 0 l.ps
  neq : ∀ p ∈ l.ps, p.2 ≠ l.d
/-- What both lists name, rising: a category and its two levels. -/
def bothP (da db : Int) : List (Int × Int) → List (Int × Int) → List (Int × Int × Int)
  | [], [] => []
  | p :: t, [] => (p.1, p.2, db) :: bothP da db t []
  | [], q :: u => (q.1, da, q.2) :: bothP da db [] u
  | p :: t, q :: u =>
    if p.1 < q.1 then (p.1, p.2, db) :: bothP da db t (q :: u)
    else if q.1 < p.1 then (q.1, da, q.2) :: bothP da db (p :: t) u
    else (p.1, p.2, q.2) :: bothP da db t u
termination_by a b => a.length + b.length
def Rise3 : Int → List (Int × Int × Int) → Prop
  | _, [] => True
  | m, p :: t => m < p.1 ∧ Rise3 p.1 t
theorem Rise3.lt : ∀ {ps : List (Int × Int × Int)} {m : Int}, Rise3 m ps → ∀ p ∈ ps, m < p.1
  | [], _, _, p, hp => by cases hp
  | q :: t, m, h, p, hp => by
    rcases List.mem_cons.1 hp with rfl | hp
    · exact h.1
    · have h1 := h.1
      have := Rise3.lt h.2 p hp
      omega
theorem bothP_rise (da db : Int) : ∀ (n : Nat) (ps qs : List (Int × Int)) (m : Int), ps.length + qs.length ≤ n → Rise m ps → Rise m qs → Rise3 m (bothP da db ps qs) := by
  intro n
  induction n with
  | zero =>
    intro ps qs m hn _ _
    obtain rfl := List.eq_nil_of_length_eq_zero (show ps.length = 0 by omega)
    obtain rfl := List.eq_nil_of_length_eq_zero (show qs.length = 0 by omega)
    simp [bothP, Rise3]
  | succ n ih =>
    intro ps qs m hn hp hq
    match ps, qs with
    | [], [] => simp [bothP, Rise3]
    | p :: t, [] => simp only [bothP]; exact ⟨hp.1, ih t [] _ (by simp at hn ⊢; omega) hp.2 True.intro⟩
    | [], q :: u => simp only [bothP]; exact ⟨hq.1, ih [] u _ (by simp at hn ⊢; omega) True.intro hq.2⟩
    | p :: t, q :: u =>
      simp only [bothP]
      simp only [List.length_cons] at hn
      split
      · rename_i hlt; exact ⟨hp.1, ih t (q :: u) _ (by simp; omega) hp.2 ⟨hlt, hq.2⟩⟩
      · split
        · rename_i hlt; exact ⟨hq.1, ih (p :: t) u _ (by simp; omega) ⟨hlt, hp.2⟩ hq.2⟩
        · have e : p.1 = q.1 := by omega
          exact ⟨hp.1, ih t u _ (by omega) hp.2 (by rw [e]; exact hq.2)⟩
/-- What is gone over: the defaults as category 0, then what both name. -/
def bothL (a b : Lab) : List (Int × Int × Int) := (0, a.d, b.d) :: bothP a.d b.d a.ps b.ps
/-- A label of levels made of two others'. -/
def mergeL (f : Int → Int → Int) (a b : Lab) : Lab :=
  ⟨f a.d b.d, ((bothP a.d b.d a.ps b.ps).map fun x => (x.1, f x.2.1 x.2.2)).filter fun p => decide (p.2 ≠ f a.d b.d)⟩
theorem rise_filter (g : Int × Int → Bool) : ∀ {ps : List (Int × Int)} {m : Int}, Rise m ps → Rise m (ps.filter g)
  | [], _, _ => True.intro
  | p :: t, m, h => by
    have ih := rise_filter g h.2
    rw [List.filter_cons]
    split
    · exact ⟨h.1, ih⟩
    · exact ih.mono (by have := h.1; omega)
theorem rise_map (g : Int × Int × Int → Int) : ∀ {ps : List (Int × Int × Int)} {m : Int}, Rise3 m ps → Rise m (ps.map fun x => (x.1, g x))
  | [], _, _ => True.intro
  | _ :: _, _, h => ⟨h.1, rise_map g h.2⟩
/-- A label of a default and of rising pairs, those of the default's level left out. -/
theorem good_filter (d : Int) {ps : List (Int × Int)} (h : Rise 0 ps) : Good ⟨d, ps.filter fun p => decide (p.2 ≠ d)⟩ :=
  ⟨rise_filter _ h, fun p hp => by simpa using (List.mem_filter.1 hp).2⟩
theorem good_merge (f : Int → Int → Int) {a b : Lab} (ha : Good a) (hb : Good b) : Good (mergeL f a b) :=
  good_filter _ (rise_map (fun x => f x.2.1 x.2.2) (bothP_rise _ _ _ _ _ _ (Nat.le_refl _) ha.rise hb.rise))
theorem bothP_length (da db : Int) : ∀ (n : Nat) (ps qs : List (Int × Int)), ps.length + qs.length ≤ n → (bothP da db ps qs).length ≤ ps.length + qs.length := by
  intro n
  induction n with
  | zero =>
    intro ps qs hn
    obtain rfl := List.eq_nil_of_length_eq_zero (show ps.length = 0 by omega)
    obtain rfl := List.eq_nil_of_length_eq_zero (show qs.length = 0 by omega)
    simp [bothP]
  | succ n ih =>
    intro ps qs hn
    match ps, qs with
    | [], [] => simp [bothP]
    | p :: t, [] => have := ih t [] (by simp at hn ⊢; omega); simp [bothP] at this ⊢; omega
    | [], q :: u => have := ih [] u (by simp at hn ⊢; omega); simp [bothP] at this ⊢; omega
    | p :: t, q :: u =>
      simp only [List.length_cons] at hn
      rw [bothP]
      split
      · have := ih t (q :: u) (by simp; omega); simp at this ⊢; omega
      · split
        · have := ih (p :: t) u (by simp; omega); simp at this ⊢; omega
        · have := ih t u (by omega); simp at this ⊢; omega
theorem merge_length (f : Int → Int → Int) (a b : Lab) : (mergeL f a b).ps.length ≤ a.ps.length + b.ps.length := by
  unfold mergeL
  refine Nat.le_trans (List.length_filter_le _ _) ?_
  rw [List.length_map]
  exact bothP_length _ _ _ _ _ (Nat.le_refl _)
def turnF (f t x : Int) : Int := if x = f then t else x
def turnL (f t : Int) (l : Lab) : Lab := mergeL (fun x _ => turnF f t x) l l
def raiseL : Lab → Lab := turnL 0 5
def restL : Lab → Lab := turnL 0 2
theorem good_turn (f t : Int) {l : Lab} (h : Good l) : Good (turnL f t l) := good_merge _ h h
/-- A category set to a level. -/
def withP (d c v : Int) : List (Int × Int) → List (Int × Int)
  | [] => if v = d then [] else [(c, v)]
  | p :: t => if p.1 < c then p :: withP d c v t else if p.1 = c then (if v = d then t else (c, v) :: t) else (if v = d then p :: t else (c, v) :: p :: t)
def withL (l : Lab) (c v : Int) : Lab := ⟨l.d, withP l.d c v l.ps⟩
theorem rise_with (d c v : Int) : ∀ {ps : List (Int × Int)} {m : Int}, Rise m ps → m < c → Rise m (withP d c v ps)
  | [], m, _, hm => by
    unfold withP
    split
    · exact True.intro
    · exact ⟨hm, True.intro⟩
  | p :: t, m, h, hm => by
    unfold withP
    split
    · exact ⟨h.1, rise_with d c v h.2 (by omega)⟩
    · split
      · split
        · exact h.2.mono (by have := h.1; omega)
        · exact ⟨hm, h.2.mono (by omega)⟩
      · split
        · exact h
        · exact ⟨hm, by omega, h.2⟩
theorem neq_with (d c v : Int) : ∀ {ps : List (Int × Int)}, (∀ p ∈ ps, p.2 ≠ d) → ∀ p ∈ withP d c v ps, p.2 ≠ d
  | [], _, p, hp => by
    unfold withP at hp
    split at hp
    · cases hp
    · simp at hp; subst hp; assumption
  | q :: t, h, p, hp => by
    have ht : ∀ p ∈ t, p.2 ≠ d := fun r hr => h r (by simp [hr])
    unfold withP at hp
    split at hp
    · rcases List.mem_cons.1 hp with rfl | hp
      · exact h p (by simp)
      · exact neq_with d c v ht p hp
    · split at hp
      · split at hp
        · exact ht p hp
        · rcases List.mem_cons.1 hp with rfl | hp
          · assumption
          · exact ht p hp
      · split at hp
        · exact h p hp
        · rcases List.mem_cons.1 hp with rfl | hp
          · assumption
          · exact h p hp
theorem good_with {l : Lab} (h : Good l) {c : Int} (hc : 0 < c) (v : Int) : Good (withL l c v) := ⟨rise_with _ _ _ h.rise hc, neq_with _ _ _ h.neq⟩
theorem with_length (d c v : Int) : ∀ (ps : List (Int × Int)), (withP d c v ps).length ≤ ps.length + 1
  | [] => by unfold withP; split <;> simp
  | p :: t => by
    have := with_length d c v t
    unfold withP
    split
    · simp; omega
    · split
      · split <;> simp <;> omega
      · split <;> simp
end Go.Proofs.Ytbeeiecbbmiojaa.Lb
