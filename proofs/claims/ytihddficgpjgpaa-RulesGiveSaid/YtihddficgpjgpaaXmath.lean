/- More on labels, for the laws of the rules. -/
import Derived.Test.YtihddficgpjgpaaXnum
namespace Go.Proofs.Ytihddficgpjgpaa.X
open Go.RowKit

theorem rchange_eq' : rchangeB = changeB := by funext t o; exact Bool.and_comm _ _
theorem rgive_eq' : rgiveB = giveB := by funext t h l; unfold rgiveB giveB; rw [rchange_eq']
theorem lv_least {a g : Lab} (ha : Good a) (hg : Good g) (x : Int) : (leastL a g).lv x = turnF 5 0 (max (turnF 0 5 (a.lv x)) (turnF 0 5 (g.lv x))) := by
  have g1 : Good (raiseL a) := good_turn 0 5 ha
  have g2 : Good (raiseL g) := good_turn 0 5 hg
  have g3 : Good (joinL (raiseL a) (raiseL g)) := good_join g1 g2
  have e1 : (lowerL (joinL (raiseL a) (raiseL g))).lv x = turnF 5 0 ((joinL (raiseL a) (raiseL g)).lv x) := lv_turn 5 0 g3 x
  unfold leastL
  rw [e1, lv_join g1 g2, lv_raise ha, lv_raise hg]
theorem good_least {a g : Lab} (ha : Good a) (hg : Good g) : Good (leastL a g) := good_turn 5 0 (good_join (good_turn 0 5 ha) (good_turn 0 5 hg))
theorem mem_with (d c v : Int) : ∀ (ps : List (Int × Int)), ∀ p ∈ withP d c v ps, p ∈ ps ∨ p = (c, v)
  | [], p, h => by
    unfold withP at h
    split at h
    · cases h
    · simp at h; exact .inr h
  | q :: t, p, h => by
    unfold withP at h
    split at h
    · rcases List.mem_cons.1 h with rfl | h
      · exact .inl List.mem_cons_self
      · exact (mem_with d c v t p h).imp (List.mem_cons_of_mem _) id
    · split at h
      · split at h
        · exact .inl (List.mem_cons_of_mem _ h)
        · rcases List.mem_cons.1 h with rfl | h
          · exact .inr rfl
          · exact .inl (List.mem_cons_of_mem _ h)
      · split at h
        · exact .inl h
        · rcases List.mem_cons.1 h with rfl | h
          · exact .inr rfl
          · exact .inl h
theorem rightP_of (d : Int) : ∀ {ps : List (Int × Int)} {m : Int}, Rise m ps → (∀ p ∈ ps, p.2 ≠ d ∧ 0 ≤ p.2 ∧ p.2 ≤ 4 ∧ p.1 ≤ 1073741824) → rightP d m ps = true
  | [], _, _, _ => rfl
  | p :: t, m, h, hp => by
    obtain ⟨h1, h2, h3, h4⟩ := hp p List.mem_cons_self
    unfold rightP
    rw [rightP_of d h.2 fun q hq => hp q (List.mem_cons_of_mem _ hq)]
    have := h.1
    simp only [Bool.and_eq_true, decide_eq_true_eq, and_true]
    exact ⟨h.1, h4, h2, h3, h1⟩
theorem owns_with (d c : Int) (hd : (0 : Int) ≠ d) : ∀ {ps : List (Int × Int)}, (∀ p ∈ ps, p.1 ≠ c) → ((withP d c 0 ps).filter fun p => decide (p.2 = 0)).length = (ps.filter fun p => decide (p.2 = 0)).length + 1
  | [], _ => by unfold withP; rw [if_neg hd]; simp
  | p :: t, h => by
    have h1 := h p List.mem_cons_self
    have ih := owns_with d c hd fun q hq => h q (List.mem_cons_of_mem _ hq)
    unfold withP
    rw [if_neg h1]
    split
    · rw [List.filter_cons, List.filter_cons]
      split
      · rw [List.length_cons, List.length_cons, ih]
      · exact ih
    · simp
/-- A category of a seed. -/
def SeedCats (l : Lab) : Prop := ∀ p ∈ l.ps, p.1 ≤ 34 ∧ p.1 % 3 = 1
theorem seedP_cats (d : Int) : ∀ (l : List Int) (i : Nat), ∀ p ∈ seedP d i l, p.1 % 3 = 1
  | [], _, _, h => by simp [seedP] at h
  | n :: t, i, p, h => by
    unfold seedP at h
    rcases List.mem_append.1 h with h | h
    · split at h
      · simp at h; subst h; simp only; omega
      · cases h
    · exact seedP_cats d t (i + 1) p h
theorem sd_cats {l : Lab} {w : World} {F : Nat → Prop} {cs : List Value} (h : sdL.on w F cs l) : SeedCats l := by
  have hf := sd_fine h
  obtain ⟨D, L, rfl, _⟩ := h
  exact fun p hp => ⟨hf.cat p hp, seedP_cats _ _ _ p hp⟩
theorem arr2c {w : World} {F : Nat → Prop} {v : Value} {l : List Lab} (h : (Sym.st (Lay.arr sdL 2) l).on w F v) : ∃ a b, l = [a, b] ∧ Fine a ∧ Fine b ∧ SeedCats a ∧ SeedCats b := by
  obtain ⟨cs, _, h1, h2⟩ := h
  match l, h1 with
  | [a, b], _ =>
    obtain ⟨_, _, _, ha, _, _, _, hb, _⟩ := h2
    exact ⟨a, b, rfl, sd_fine ha, sd_fine hb, sd_cats ha, sd_cats hb⟩
theorem cats_len : ∀ {ps : List (Int × Int)} {m : Int}, Rise m ps → 0 ≤ m → m ≤ 34 → (∀ p ∈ ps, p.1 ≤ 34 ∧ p.1 % 3 = 1) → (ps.length : Int) ≤ (36 - m) / 3
  | [], m, _, h0, h1, _ => by simp; omega
  | p :: t, m, h, h0, h1, hp => by
    obtain ⟨a1, a2⟩ := hp p List.mem_cons_self
    have ih := cats_len h.2 (by have := h.1; omega) a1 fun q hq => hp q (List.mem_cons_of_mem _ hq)
    have := h.1
    rw [List.length_cons]
    omega
theorem merge_cats (f : Int → Int → Int) {a b : Lab} (ha : Good a) (hb : Good b) (sa : SeedCats a) (sb : SeedCats b) : SeedCats (mergeL f a b) := fun p hp => by
  have g := good_merge f ha hb
  have e1 : (mergeL f a b).lv p.1 = p.2 := atP_mem _ g.rise p hp
  by_cases h1 : ∃ q ∈ a.ps, q.1 = p.1
  · obtain ⟨q, hq, e⟩ := h1
    rw [← e]; exact sa q hq
  · by_cases h2 : ∃ q ∈ b.ps, q.1 = p.1
    · obtain ⟨q, hq, e⟩ := h2
      rw [← e]; exact sb q hq
    · exfalso
      refine g.neq p hp ?_
      rw [← e1, lv_merge f ha hb, lv_none h1, lv_none h2]
      rfl
theorem cats_none {a : Lab} (ca : SeedCats a) {c : Int} (hc : 100 ≤ c) : ∀ p ∈ a.ps, p.1 ≠ c := fun p hp e => by
  have := (ca p hp).1
  omega
theorem right_with {a : Lab} (ga : Good a) (hd : 1 ≤ a.d ∧ a.d ≤ 4) (hu : Upto 4 a) (ca : SeedCats a) {c v : Int} (hc : 100 ≤ c) (hc2 : c ≤ 1073741824) (hv : 0 ≤ v ∧ v ≤ 4) (hl : a.ps.length ≤ 11) : rightB (withL a c v) = true := by
  have g := good_with ga (show 0 < c by omega) v
  have hn := withP_none a.d c v ga.rise (cats_none ca hc)
  have hlen : (withL a c v).ps.length ≤ 12 := by
    show (withP a.d c v a.ps).length ≤ 12
    rw [hn]
    split <;> omega
  unfold rightB
  simp only [Bool.and_eq_true, decide_eq_true_eq]
  refine ⟨hd.1, hd.2, hlen, rightP_of _ g.rise fun p hp => ?_⟩
  have e1 : (withL a c v).lv p.1 = p.2 := atP_mem _ g.rise p hp
  refine ⟨g.neq p hp, ?_⟩
  rcases mem_with _ _ _ _ p hp with h | h
  · have e2 : a.lv p.1 = p.2 := atP_mem _ ga.rise p h
    have := hu p.1
    have := (ca p h).1
    omega
  · subst h
    exact ⟨hv.1, hv.2, hc2⟩
end Go.Proofs.Ytihddficgpjgpaa.X
