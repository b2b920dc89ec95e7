/- What MapsRuns' two lists have to do with one another, step by step. -/
import Derived.Test.YtbeeiecbbmiojaaYord3
namespace Go.Proofs.Ytbeeiecbbmiojaa.Y
open Go.RowKit

/-- Each fits, and they rise, none over another. -/
def OkM (l : List M) : Prop := (∀ m ∈ l, fitsB m = true) ∧ l.Pairwise fun a b => a.pa + a.nn ≤ b.pa
theorem fit_pos {m : M} (h : fitsB m = true) : 1 ≤ m.nn ∧ 0 ≤ m.pa ∧ m.pa + m.nn ≤ 4096 := by
  unfold fitsB at h
  rw [decide_eq_true_eq] at h
  omega
theorem okM_from : ∀ {l : List M} {e : Int}, rightFrom e l = true ↔ (OkM l ∧ ∀ m ∈ l, e ≤ m.pa)
  | [], e => by simp [rightFrom, OkM]
  | m :: t, e => by
    have ih := okM_from (l := t) (e := m.pa + m.nn)
    rw [rightFrom, Bool.and_eq_true, Bool.and_eq_true, decide_eq_true_eq, ih]
    unfold OkM
    constructor
    · rintro ⟨⟨h1, h2⟩, ⟨h3, h4⟩, h5⟩
      refine ⟨⟨?_, List.pairwise_cons.2 ⟨h5, h4⟩⟩, ?_⟩
      · intro x hx
        rcases List.mem_cons.1 hx with rfl | hx
        · exact h1
        · exact h3 x hx
      · intro x hx
        rcases List.mem_cons.1 hx with rfl | hx
        · exact h2
        · have := h5 x hx; have := fit_pos h1; omega
    · rintro ⟨⟨h1, h2⟩, h3⟩
      rw [List.pairwise_cons] at h2
      exact ⟨⟨h1 m List.mem_cons_self, h3 m List.mem_cons_self⟩, ⟨fun x hx => h1 x (List.mem_cons_of_mem _ hx), h2.2⟩, h2.1⟩
theorem okM_right {l : List M} (h : OkM l) : rightFrom 0 l = true := okM_from.2 ⟨h, fun m hm => (fit_pos (h.1 m hm)).2.1⟩
theorem okM_of {l : List M} (h : rightFrom 0 l = true) : OkM l := (okM_from.1 h).1
/-- Those that are not at a page. -/
def awayL (l : List M) (n : Int) : List M := l.filter fun m => m.pa != n
theorem okM_away {l : List M} (n : Int) (h : OkM l) : OkM (awayL l n) := ⟨fun m hm => h.1 m (List.mem_filter.1 hm).1, h.2.filter _⟩
theorem split_at : ∀ {l : List M} {n : Int}, (∃ m ∈ l, m.pa = n) → ∃ p x r, l = p ++ x :: r ∧ x.pa = n ∧ ∀ y ∈ p, y.pa ≠ n
  | [], _, ⟨m, hm, _⟩ => by cases hm
  | m :: t, n, ⟨q, hq, hn⟩ => by
    by_cases h : m.pa = n
    · exact ⟨[], m, t, rfl, h, fun y hy => by cases hy⟩
    · have : ∃ q ∈ t, q.pa = n := by
        rcases List.mem_cons.1 hq with rfl | hq
        · exact absurd hn h
        · exact ⟨q, hq, hn⟩
      obtain ⟨p, x, r, rfl, h1, h2⟩ := split_at this
      exact ⟨m :: p, x, r, rfl, h1, fun y hy => by
        rcases List.mem_cons.1 hy with rfl | hy
        · exact h
        · exact h2 y hy⟩
theorem rem_away {l : List M} {n : Int} (h : OkM l) (hm : ∃ m ∈ l, m.pa = n) : remM l n = (awayL l n, 0) ∧ (awayL l n).length + 1 = l.length := by
  obtain ⟨p, x, r, rfl, rfl, h2⟩ := split_at hm
  have hp := h.2
  rw [List.pairwise_append, List.pairwise_cons] at hp
  have hx := fit_pos (h.1 x (by simp))
  have e1 : awayL p x.pa = p := List.filter_eq_self.2 fun y hy => by simpa using h2 y hy
  have e2 : awayL r x.pa = r := List.filter_eq_self.2 fun y hy => by have := hp.2.1.1 y hy; simp; omega
  have e : awayL (p ++ x :: r) x.pa = p ++ r := by
    unfold awayL at *
    rw [List.filter_append, List.filter_cons, if_neg (by simp), e1, e2]
  rw [rem_mid h2, e]
  exact ⟨rfl, by simp; omega⟩
theorem over_is {x m : M} (hx : fitsB x = true) (hm : fitsB m = true) : overB x m = (decide (x.pa < m.pa + m.nn) && decide (m.pa < x.pa + x.nn)) := by
  unfold overB
  rw [end_wrap hx, end_wrap hm]
theorem pos_split (l : List M) (x : Int) : ∃ p r, l = p ++ r ∧ posM l x = p.length ∧ (∀ y ∈ p, y.pa < x) ∧ (∀ y, r.head? = some y → x ≤ y.pa) := by
  refine ⟨l.takeWhile fun m => decide (m.pa < x), l.dropWhile fun m => decide (m.pa < x), (List.takeWhile_append_dropWhile).symm, rfl, fun y hy => ?_, fun y hy => ?_⟩
  · have : ∀ {l : List M}, y ∈ l.takeWhile (fun m => decide (m.pa < x)) → y.pa < x := by
      intro l
      induction l with
      | nil => intro h; cases h
      | cons m t ih =>
        intro h
        rw [List.takeWhile_cons] at h
        split at h
        · rename_i hm
          rcases List.mem_cons.1 h with rfl | h
          · simpa using hm
          · exact ih h
        · cases h
    exact this hy
  · have : ∀ {l : List M}, (l.dropWhile fun m => decide (m.pa < x)).head? = some y → x ≤ y.pa := by
      intro l
      induction l with
      | nil => intro h; cases h
      | cons m t ih =>
        intro h
        rw [List.dropWhile_cons] at h
        split at h
        · exact ih h
        · rename_i hm
          have : m = y := by simpa using h
          subst this
          simpa using hm
    exact this hy
/-- One that fits clashes just if it is over one that is there. -/
theorem clash_is {l : List M} {m : M} (h : OkM l) (hm : fitsB m = true) : clash l (posM l m.pa) m = l.any fun x => overB x m := by
  obtain ⟨p, r, rfl, hpos, h1, h2⟩ := pos_split l m.pa
  rw [hpos]
  have hpw := h.2
  rw [List.pairwise_append] at hpw
  have hmm := fit_pos hm
  rw [Bool.eq_iff_iff, List.any_eq_true]
  have fp : ∀ y ∈ p, fitsB y = true := fun y hy => h.1 y (by simp [hy])
  have fr : ∀ y ∈ r, fitsB y = true := fun y hy => h.1 y (by simp [hy])
  unfold clash
  rw [Bool.or_eq_true, Bool.and_eq_true, Bool.and_eq_true, decide_eq_true_eq, decide_eq_true_eq, decide_eq_true_eq, decide_eq_true_eq]
  constructor
  · rintro (⟨a1, a2⟩ | ⟨a1, a2⟩)
    · have hl : p.length - 1 < p.length := by omega
      have hd : (p ++ r).getD (p.length - 1) noM = p[p.length - 1] := by
        rw [List.getD_eq_getElem?_getD, List.getElem?_append_left hl, List.getElem?_eq_getElem hl]; rfl
      rw [hd] at a2
      have hmem := List.getElem_mem hl
      refine ⟨p[p.length - 1], List.mem_append_left _ hmem, ?_⟩
      rw [over_is (fp _ hmem) hm]
      rw [end_wrap (fp _ hmem)] at a2
      have := h1 _ hmem
      simp only [Bool.and_eq_true, decide_eq_true_eq]
      omega
    · cases r with
      | nil => simp at a1
      | cons y t =>
        rw [show (p ++ y :: t).getD p.length noM = y by simp [List.getD_eq_getElem?_getD], end_wrap hm] at a2
        refine ⟨y, by simp, ?_⟩
        rw [over_is (fr y List.mem_cons_self) hm]
        have := h2 y rfl
        have := fit_pos (fr y List.mem_cons_self)
        simp only [Bool.and_eq_true, decide_eq_true_eq]
        omega
  · rintro ⟨x, hx, ho⟩
    rw [over_is (h.1 x hx) hm] at ho
    simp only [Bool.and_eq_true, decide_eq_true_eq] at ho
    rcases List.mem_append.1 hx with hx | hx
    · left
      obtain ⟨j, hj, rfl⟩ := List.getElem_of_mem hx
      have hl : p.length - 1 < p.length := by omega
      have hd : (p ++ r).getD (p.length - 1) noM = p[p.length - 1] := by
        rw [List.getD_eq_getElem?_getD, List.getElem?_append_left hl, List.getElem?_eq_getElem hl]; rfl
      have hmem := List.getElem_mem hl
      rw [hd, end_wrap (fp _ hmem)]
      refine ⟨by omega, ?_⟩
      by_cases e : j = p.length - 1
      · subst e; exact ho.2
      · have h3 := List.pairwise_iff_getElem.1 hpw.1 j (p.length - 1) hj hl (by omega)
        have := h1 _ hmem
        have := fit_pos (fp _ hmem)
        omega
    · right
      cases r with
      | nil => cases hx
      | cons y t =>
        rw [show (p ++ y :: t).getD p.length noM = y by simp [List.getD_eq_getElem?_getD], end_wrap hm]
        refine ⟨by simp; omega, ?_⟩
        rcases List.mem_cons.1 hx with rfl | hx
        · exact ho.1
        · have h3 := (List.pairwise_cons.1 hpw.2.1).1 x hx
          have := fit_pos (fr y List.mem_cons_self)
          omega
/-- What the law says Add answers. -/
def badW (W : List M) (m : M) : Bool := !fitsB m || W.any fun x => overB x m
def errW (W : List M) (m : M) : Int := if badW W m then 1 else if (W.length : Int) = 16 then 7 else 0
/-- One that is added where it may be. -/
def insM (l : List M) (m : M) : List M := l.take (posM l m.pa) ++ m :: l.drop (posM l m.pa)
structure Twin (G W : List M) : Prop where
  ok : OkM G
  perm : W.Perm G
  len : W.length ≤ 16
theorem Twin.nil : Twin [] [] := ⟨⟨fun m h => (by cases h), List.Pairwise.nil⟩, List.Perm.refl _, by simp⟩
theorem Twin.any {G W : List M} (h : Twin G W) (f : M → Bool) : G.any f = W.any f := by
  rw [Bool.eq_iff_iff, List.any_eq_true, List.any_eq_true]
  constructor
  · rintro ⟨x, hx, h2⟩; exact ⟨x, h.perm.mem_iff.2 hx, h2⟩
  · rintro ⟨x, hx, h2⟩; exact ⟨x, h.perm.mem_iff.1 hx, h2⟩
theorem Twin.add {G W : List M} (h : Twin G W) (m : M) : (addM G m).2 = errW W m ∧ (errW W m ≠ 0 → (addM G m).1 = []) ∧ (errW W m = 0 → addM G m = (insM G m, 0) ∧ Twin (insM G m) (W ++ [m])) := by
  have hl := h.perm.length_eq
  have hlen := h.len
  unfold errW badW addM
  by_cases hf : fitsB m = true
  · rw [if_neg (by rw [hf]; simp), hf, clash_is h.ok hf, h.any]
    simp only [Bool.not_true, Bool.false_or]
    by_cases hc : (W.any fun x => overB x m) = true
    · rw [if_pos hc, if_pos hc]
      exact ⟨rfl, fun _ => rfl, fun h => by cases h⟩
    · rw [if_neg hc, if_neg hc]
      by_cases hq : 16 ≤ G.length
      · rw [if_pos hq, if_pos (by omega)]
        exact ⟨rfl, fun _ => rfl, fun h => by cases h⟩
      · rw [if_neg hq, if_neg (by omega)]
        refine ⟨rfl, fun h => absurd rfl h, fun _ => ⟨rfl, ⟨?_, ?_⟩, ?_, ?_⟩⟩
        · intro x hx
          unfold insM at hx
          rcases List.mem_append.1 hx with hx | hx
          · exact h.ok.1 x (List.mem_of_mem_take hx)
          · rcases List.mem_cons.1 hx with rfl | hx
            · exact hf
            · exact h.ok.1 x (List.mem_of_mem_drop hx)
        · have hn : ∀ x ∈ G, ¬ (x.pa < m.pa + m.nn ∧ m.pa < x.pa + x.nn) := fun x hx ho => hc (by
            rw [← h.any, List.any_eq_true]
            exact ⟨x, hx, by rw [over_is (h.ok.1 x hx) hf]; simp [ho]⟩)
          obtain ⟨p, r, hG, hpos, h1, h2⟩ := pos_split G m.pa
          have hok := h.ok
          unfold insM
          rw [hpos, hG, List.take_left, List.drop_left]
          rw [hG] at hok hn
          have hpw := hok.2
          have hmm := fit_pos hf
          rw [List.pairwise_append] at hpw ⊢
          refine ⟨hpw.1, List.pairwise_cons.2 ⟨fun y hy => ?_, hpw.2.1⟩, fun x hx y hy => ?_⟩
          · have hy' := hok.1 y (List.mem_append_right _ hy)
            have h3 := hn y (List.mem_append_right _ hy)
            have h4 := fit_pos hy'
            have h5 : m.pa ≤ y.pa := by
              cases r with
              | nil => cases hy
              | cons z t =>
                have := h2 z rfl
                rcases List.mem_cons.1 hy with rfl | hy
                · exact this
                · have h6 := (List.pairwise_cons.1 hpw.2.1).1 y hy
                  have := fit_pos (hok.1 z (by simp))
                  omega
            omega
          · have h3 := hn x (List.mem_append_left _ hx)
            have h4 := h1 x hx
            have h5 := fit_pos (hok.1 x (List.mem_append_left _ hx))
            rcases List.mem_cons.1 hy with rfl | hy
            · omega
            · exact hpw.2.2 x hx y hy
        · unfold insM
          refine (List.perm_append_comm.trans ?_ : (W ++ [m]).Perm _)
          refine (List.Perm.cons m h.perm).trans ?_
          have := (List.perm_middle (a := m) (l₁ := G.take (posM G m.pa)) (l₂ := G.drop (posM G m.pa))).symm
          rwa [List.take_append_drop] at this
        · simp; omega
  · rw [if_pos (by simpa using hf), if_pos (by simp [hf])]
    exact ⟨rfl, fun _ => rfl, fun h => by cases h⟩
theorem Twin.rem {G W : List M} (h : Twin G W) {x : M} (hx : x ∈ W) : remM G x.pa = (awayL G x.pa, 0) ∧ Twin (awayL G x.pa) (awayL W x.pa) :=
  ⟨(rem_away h.ok ⟨x, h.perm.mem_iff.1 hx, rfl⟩).1, okM_away _ h.ok, h.perm.filter _, Nat.le_trans (List.length_filter_le _ _) h.len⟩
theorem Twin.right {G W : List M} (h : Twin G W) : rightB G = true ∧ G.length = W.length := by
  have hl := h.perm.length_eq
  have := h.len
  refine ⟨?_, hl.symm⟩
  unfold rightB
  rw [okM_right h.ok, Bool.true_and, decide_eq_true_eq]
  omega
theorem inM_fit {m : M} (h : fitsB m = true) (q : Int) : inM q m = (decide (m.pa ≤ q) && decide (q < m.pa + m.nn)) := by unfold inM; rw [end_wrap h]
theorem Twin.hit {G W : List M} (h : Twin G W) {m : M} {q : Int} (hm : m ∈ W) (hq : inM q m = true) : findR G q = (m, true) := by
  obtain ⟨p, r, hG⟩ := List.append_of_mem (h.perm.mem_iff.1 hm)
  have ok := h.ok
  rw [hG] at ok ⊢
  refine find_mid (fun y hy => ?_) hq
  have hp := ok.2
  rw [List.pairwise_append] at hp
  have h1 := hp.2.2 y hy m List.mem_cons_self
  rw [inM_fit (ok.1 m (by simp))] at hq
  rw [inM_fit (ok.1 y (by simp [hy])), Bool.and_eq_false_iff, decide_eq_false_iff_not, decide_eq_false_iff_not]
  simp only [Bool.and_eq_true, decide_eq_true_eq] at hq
  omega
theorem Twin.miss {G W : List M} (h : Twin G W) {q : Int} (hm : ∀ m ∈ W, inM q m = false) : findR G q = (noM, false) := by
  unfold findR
  rw [List.find?_eq_none.2 fun x hx => by rw [hm x (h.perm.mem_iff.2 hx)]; simp]
end Go.Proofs.Ytbeeiecbbmiojaa.Y
