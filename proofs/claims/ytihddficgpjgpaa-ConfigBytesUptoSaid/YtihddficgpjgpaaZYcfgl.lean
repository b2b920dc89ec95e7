/- Ycfgl: the code's words and the document's: the same -/
import Derived.Test.YtihddficgpjgpaaZYcfgt
namespace Go.Proofs.Ytihddficgpjgpaa.Y
open Go.RowKit Go.ChangeShapes Go.WideShapes Go.ChangeAt
theorem maps_head {n : Nat} {e : Int} {m : M} (he : 0 ≤ e) (hs : 0 ≤ m.sg) : ((fitsB m && decide (e ≤ m.pa)) && segB n m) = !refM n e m := by
  unfold fitsB segB refM
  rw [Bool.eq_iff_iff]
  simp only [Bool.and_eq_true, Bool.not_eq_true', Bool.or_eq_false_iff, decide_eq_true_eq, decide_eq_false_iff_not, IntKind.wrap_i64]
  omega
theorem maps_eq {n : Nat} : ∀ {l : List M} {e : Int}, 0 ≤ e → (∀ m ∈ l, 0 ≤ m.sg) → (mapsFrom e l && l.all (segB n)) = refFrom n e l
  | [], _, _, _ => rfl
  | m :: t, e, he, hs => by
    have h1 := maps_head (n := n) he (hs m List.mem_cons_self)
    rw [mapsFrom, refFrom, List.all_cons, ← h1]
    by_cases hf : (fitsB m && decide (e ≤ m.pa)) = true
    · have h2 : 0 ≤ m.pa + m.nn := by
        rw [Bool.and_eq_true] at hf
        have h3 := hf.1
        unfold fitsB at h3
        rw [decide_eq_true_eq] at h3
        omega
      rw [← maps_eq h2 fun q hq => hs q (List.mem_cons_of_mem _ hq), hf]
      cases mapsFrom (m.pa + m.nn) t <;> cases segB n m <;> rfl
    · rw [Bool.not_eq_true] at hf
      rw [hf]
      rfl
theorem maps_same {n : Nat} {l : List M} (hs : ∀ m ∈ l, 0 ≤ m.sg) : (mapsB l && l.all (segB n)) = refMaps n l := by
  unfold mapsB refMaps
  rw [← maps_eq (Int.le_refl 0) hs]
  cases mapsFrom 0 l <;> cases l.all (segB n) <;> cases decide ((l.length : Int) ≤ 16) <;> rfl
theorem kind_false (c : Cf) (o : Ob) : kindO c o false = false := by
  unfold kindO
  simp only [Bool.false_and]
  repeat' split
  all_goals rfl
/-- An object's kind asks the same in both words. -/
theorem kind_true {c : Cf} {i : Nat} {o : Ob} (hs : ∀ m ∈ o.mps, 0 ≤ m.sg) (h : ((!(homeB c i o).2 || !rightB o.lab) || !leqB (homeB c i o).1 (restL o.lab)) = false) : okB c i o = kindO c o true := by
  unfold okB kindO
  rw [h]
  simp only [Bool.true_and, Bool.false_eq_true, if_false, Int.mul_comm o.pg 64]
  rw [Bool.and_assoc (plainB o.lab) (mapsB o.mps), maps_same hs]
theorem okB_eq {c : Cf} {i : Nat} {o : Ob} (ei : c.obs[i]? = some o) (hs : ∀ m ∈ o.mps, 0 ≤ m.sg) : okB c i o = if 0 ≤ o.par ∧ o.par ≤ (i : Int) then kindO c o (upO c o) else false := by
  have hiL : i < c.obs.length := (List.getElem?_eq_some_iff.1 ei).1
  have go : ∀ (h : Lab) (b : Bool), homeB c i o = (h, b) → upO c o = ((b && rightB o.lab) && leqB h (restL o.lab)) → okB c i o = kindO c o (upO c o) := fun h b e1 e2 => by
    cases hc : ((!(homeB c i o).2 || !rightB o.lab) || !leqB (homeB c i o).1 (restL o.lab)) with
    | false =>
      rw [kind_true hs hc, e2]
      rw [e1] at hc
      cases b <;> cases hr : rightB o.lab <;> cases hl : leqB h (restL o.lab) <;> simp_all
    | true =>
      have e3 : okB c i o = false := by unfold okB; rw [if_pos hc]
      rw [e3, e2]
      rw [e1] at hc
      have e4 : ((b && rightB o.lab) && leqB h (restL o.lab)) = false := by
        cases b <;> cases hr : rightB o.lab <;> cases hl : leqB h (restL o.lab) <;> simp_all
      rw [e4, kind_false]
  by_cases h0 : o.par = 0
  · rw [if_pos (by omega)]
    exact go _ _ (home_0 h0) (up_no (by omega))
  · by_cases hp : 1 ≤ o.par ∧ o.par ≤ (i : Int)
    · rw [if_pos (by omega)]
      obtain ⟨j, hj⟩ : ∃ j : Nat, o.par = (j : Int) + 1 := ⟨(o.par - 1).toNat, by omega⟩
      obtain ⟨p, ej⟩ : ∃ p, c.obs[j]? = some p := ⟨_, List.getElem?_eq_getElem (by omega)⟩
      have e1 := home_at h0 hp hj ej
      have e2 := up_at hj ej
      by_cases hk : p.k = 1
      · rw [if_pos hk] at e1
        exact go _ _ e1 (by rw [e2, hk]; rfl)
      · rw [if_neg hk] at e1
        have hk' : (p.k == 1) = false := by simpa using hk
        exact go _ _ e1 (by rw [e2, hk']; rfl)
    · rw [if_neg (by omega)]
      unfold okB
      rw [home_no h0 hp]
      rfl
theorem ob_all {c : Cf} (hs : ∀ o ∈ c.obs, ∀ m ∈ o.mps, 0 ≤ m.sg) : ∀ {n : Nat}, n ≤ c.obs.length → obTo c n = (slTo c c.sl.length && (List.range n).all (okAt c))
  | 0, _ => by simp [obTo]
  | n + 1, hn => by
    obtain ⟨o, eo⟩ : ∃ o, c.obs[n]? = some o := ⟨_, List.getElem?_eq_getElem hn⟩
    have ih := ob_all hs (Nat.le_of_succ_le hn)
    have e1 : okAt c n = okB c n o := by unfold okAt; rw [eo]
    have e2 := okB_eq eo (hs o (List.mem_of_getElem? eo))
    rw [List.range_succ, List.all_append, ← Bool.and_assoc, ← ih]
    simp only [List.all_cons, List.all_nil, Bool.and_true]
    rw [e1, e2]
    cases hb : obTo c n with
    | false => rw [ob_stop eo (by rw [hb]; rfl)]; rfl
    | true =>
      by_cases hp : 0 ≤ o.par ∧ o.par ≤ (n : Int)
      · rw [if_pos hp, ob_go eo (by rw [hb]; simp [hp]), Bool.true_and]
      · rw [if_neg hp, ob_stop eo (by rw [hb]; simp only [Bool.true_and, Bool.and_eq_false_iff, decide_eq_false_iff_not]; omega)]; rfl
theorem slotO_eq (n : Nat) (b : Bool) (s : Int × Int) : slotO n b s = (b && (slotB s && sameN n s)) := by
  unfold slotO slotB sameN
  rw [Bool.eq_iff_iff]
  simp only [Bool.and_eq_true, Bool.not_eq_true', Bool.or_eq_false_iff, decide_eq_true_eq, decide_eq_false_iff_not]
  constructor
  · rintro ⟨⟨⟨h1, h2⟩, h3⟩, h4⟩; exact ⟨h1, ⟨by omega, by omega⟩, by omega⟩
  · rintro ⟨h1, ⟨h2, h3⟩, h4⟩; exact ⟨⟨⟨h1, by omega⟩, by omega⟩, by omega⟩
theorem sl_all {c : Cf} : ∀ {n : Nat}, n ≤ c.sl.length → slTo c n = (topB c && (c.sl.take n).all fun s => slotB s && sameN c.obs.length s)
  | 0, _ => by simp [slTo]
  | n + 1, hn => by
    obtain ⟨s, es⟩ : ∃ s, c.sl[n]? = some s := ⟨_, List.getElem?_eq_getElem hn⟩
    rw [sl_succ es, slotO_eq, sl_all (Nat.le_of_succ_le hn)]
    obtain ⟨hi, rfl⟩ := List.getElem?_eq_some_iff.1 es
    rw [List.take_succ_eq_append_getElem hi, List.all_append]
    simp only [List.all_cons, List.all_nil, Bool.and_true, Bool.and_assoc]
theorem all_two {α : Type} (f g : α → Bool) : ∀ l : List α, (l.all fun x => f x && g x) = (l.all f && l.all g)
  | [] => rfl
  | x :: t => by
    simp only [List.all_cons, all_two f g t]
    cases f x <;> cases g x <;> cases t.all f <;> cases t.all g <;> rfl
/-- The code's words and the law's ask the same. -/
theorem right_same {c : Cf} (hs : ∀ o ∈ c.obs, ∀ m ∈ o.mps, 0 ≤ m.sg) : rightC c = rightD c := by
  unfold rightD
  rw [ob_all hs (Nat.le_refl _), sl_all (Nat.le_refl _), List.take_length, all_two]
  unfold rightC slotsB topB
  generalize c.sl.all slotB = s1
  generalize c.sl.all (sameN c.obs.length) = s2
  generalize (List.range c.obs.length).all (okAt c) = s3
  rw [Bool.eq_iff_iff]
  cases s1 <;> cases s2 <;> cases s3 <;> simp
  omega
end Go.Proofs.Ytihddficgpjgpaa.Y
