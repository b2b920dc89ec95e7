/- Yback: what Add and Remove do to one another -/
import Derived.Test.YtbeeiecbbmiojaaYrem
namespace Go.Proofs.Ytbeeiecbbmiojaa.Y
open Go.RowKit Go.ChangeShapes Go.WideShapes Go.ChangeAt

/-- append(nil, l..): a list of the call's own. -/
theorem p_append0 {P : Program} {U : Prop} {ops : Array Oper} {Q : Exit → Act → World → Prop} {N d : Nat} {e : Env} {t : TypeId} {p : String} {af : Array Edge} {g : Option (Nat × Bool)} {c : Bool} {x : Operand} {T E : TypeId} {α : Type} {L : Lay α} {enc : α → List Value} {l : List α} {i : TypeInfo} {z : Value} {bytes : Nat} (hf : Flat L enc) (ht : P.underlying T = some (.slice E)) (hi : P.info? E = some i) (hz : i.zero = some z) (hsize : i.size = L.n) (hby : i.bytes = bytes) (hzs : z.cells.size = L.n) (hsz : 0 < L.n) (hb40 : bytes ≤ 64) (hl : l.length ≤ 1000000)
    (hg : GdE ops e g c) (hx : OpdE e c x (.one (Lay.sl L) l)) : Pays U P ops Q N e ⟨some d, .call { callee := .builtin .append, args := #[.const (.slice none 0 0), x], argTypes := #[T, T] }, t, p, af, g⟩ (c, .one (Lay.sl L) l) :=
  pOf hg fun e a w F hF hk R hR => by
    have h1 := hx a w F (fun s hs => hk s (by simp [Op.operands, Call.operands, hs])) e
    obtain ⟨A, cp, e1, hr, _⟩ := reads_of_sl hf h1
    have hby2 : (0 + l.length) * bytes ≤ 140737488355328 := Nat.le_trans (Nat.mul_le_mul (show 0 + l.length ≤ 1000000 by omega) hb40) (by decide)
    refine wp_append_any w (.const (.slice none 0 0)) x T rfl w.heap.size E i z L.n bytes ht hi hz hsize hby hzs hsz (.slice none 0 0) 0 [] rfl (World.ownsRow_nil _ _ _ _) w.heap.size A l.length cp _ e1 hr (hf.ones l) (by unfold maxLen; omega) hby2 (Nat.le_refl _) fun v' w' h2 h3 _ => ?_
    refine hR v' w' (below_of_none h3) (sl_of_own hf (by simpa using h2) fun g o hg _ hf => ?_)
    have := own_base h2 hg
    have := hF.lt (g, o) hf
    simp only at this
    omega
theorem mem_take {l : List M} {k : Nat} {y : M} (h : y ∈ l.take k) : ∃ j, j < k ∧ j < l.length ∧ y = l.getD j noM := by
  obtain ⟨j, hj, rfl⟩ := List.getElem_of_mem h
  simp at hj
  refine ⟨j, by omega, by omega, ?_⟩
  simp [List.getD_eq_getElem?_getD, show j < l.length by omega]
theorem pos_lt : ∀ {l : List M} {x : Int} {j : Nat}, j < posM l x → (l.getD j noM).pa < x
  | [], _, _, h => by simp [posM] at h
  | m :: t, x, j, h => by
    unfold posM at h
    rw [List.takeWhile_cons] at h
    split at h
    · rename_i hm
      cases j with
      | zero => simpa using hm
      | succ j => simpa using pos_lt (l := t) (x := x) (j := j) (by unfold posM; simpa using h)
    · simp at h
theorem pos_le (l : List M) (x : Int) : posM l x ≤ l.length := by unfold posM; exact (List.takeWhile_sublist _).length_le
theorem right_fit : ∀ {l : List M} {e : Int} {j : Nat}, rightFrom e l = true → j < l.length → fitsB (l.getD j noM) = true
  | [], _, _, _, h => by simp at h
  | m :: t, e, 0, h, _ => by rw [rightFrom] at h; simp at h; simp [h.1.1]
  | m :: t, e, j + 1, h, hj => by
    rw [rightFrom, Bool.and_eq_true] at h
    simpa using right_fit (l := t) (j := j) h.2 (by simpa using hj)
theorem right_pair : ∀ {l : List M} {e : Int} {j : Nat}, rightFrom e l = true → j + 1 < l.length → (l.getD j noM).pa + (l.getD j noM).nn ≤ (l.getD (j + 1) noM).pa
  | [], _, _, _, h => by simp at h
  | [m], _, _, _, h => by simp at h
  | m :: q :: t, e, 0, h, _ => by
    rw [rightFrom, rightFrom] at h
    simp at h
    simp
    omega
  | m :: q :: t, e, j + 1, h, hj => by
    rw [rightFrom, Bool.and_eq_true] at h
    simpa using right_pair (l := q :: t) (j := j) h.2 (by simpa using hj)
theorem find_mid {q : Int} {m : M} {r : List M} : ∀ {p : List M}, (∀ y ∈ p, inM q y = false) → inM q m = true → findR (p ++ m :: r) q = (m, true)
  | [], _, h => by unfold findR; rw [List.nil_append, List.find?_cons, h]
  | y :: t, h1, h => by
    have ih := find_mid (q := q) (m := m) (r := r) (p := t) (fun z hz => h1 z (List.mem_cons_of_mem _ hz)) h
    unfold findR at ih ⊢
    rw [List.cons_append, List.find?_cons, h1 y List.mem_cons_self]
    exact ih
theorem idx_mid {m : M} {r : List M} : ∀ {p : List M}, (∀ y ∈ p, y.pa ≠ m.pa) → idxR (p ++ m :: r) m.pa = p.length
  | [], _ => by simp [idxR]
  | y :: t, h => by
    have ih := idx_mid (m := m) (r := r) (p := t) (fun z hz => h z (List.mem_cons_of_mem _ hz))
    unfold idxR at ih ⊢
    rw [List.cons_append, List.takeWhile_cons, if_pos (by simpa using h y List.mem_cons_self), List.length_cons, ih, List.length_cons]
theorem rem_mid {m : M} {p r : List M} (h : ∀ y ∈ p, y.pa ≠ m.pa) : remM (p ++ m :: r) m.pa = (p ++ r, 0) := by
  unfold remM
  rw [idx_mid h, if_pos (by simp), List.take_left, show p.length + 1 = (p ++ [m]).length by simp, show p ++ m :: r = (p ++ [m]) ++ r by simp, List.drop_left]
theorem add_bad {l : List M} {m : M} (h : ((addM l m).2 != 0) = true) : (((addM l m).1.length : Int) == 0) = true := by
  unfold addM at h ⊢
  split at h
  · rename_i h1; rw [if_pos h1]; rfl
  · rename_i h1
    rw [if_neg h1]
    split at h
    · rename_i h2; rw [if_pos h2]; rfl
    · rename_i h2
      rw [if_neg h2]
      split at h
      · rename_i h3; rw [if_pos h3]; rfl
      · cases h
theorem add_good {l : List M} {m : M} (h : ((addM l m).2 != 0) = false) : fitsB m = true ∧ clash l (posM l m.pa) m = false ∧ l.length < 16 ∧ addM l m = (l.take (posM l m.pa) ++ m :: l.drop (posM l m.pa), 0) := by
  unfold addM at h ⊢
  split at h
  · cases h
  · rename_i h1
    split at h
    · cases h
    · rename_i h2
      split at h
      · cases h
      · rename_i h3
        exact ⟨by simpa using h1, by simpa using h2, by omega, by rw [if_neg h1, if_neg h2, if_neg h3]⟩
theorem add_len (l : List M) (m : M) : (addM l m).1.length ≤ l.length + 1 := by
  unfold addM
  split
  · simp
  · split
    · simp
    · split
      · simp
      · simp; omega
/-- Those ahead of a new map end ahead of it. -/
theorem ahead {l : List M} {m : M} (hr : rightFrom 0 l = true) (hc : clash l (posM l m.pa) m = false) : ∀ y ∈ l.take (posM l m.pa), fitsB y = true ∧ y.pa < m.pa ∧ y.pa + y.nn ≤ m.pa := fun y hy => by
  obtain ⟨j, h1, h2, rfl⟩ := mem_take hy
  have hf := right_fit hr h2
  refine ⟨hf, pos_lt h1, ?_⟩
  by_cases hj : j + 1 < posM l m.pa
  · have h3 := right_pair hr (j := j) (by have := pos_le l m.pa; omega)
    have h4 := pos_lt hj
    omega
  · unfold clash at hc
    rw [Bool.or_eq_false_iff, Bool.and_eq_false_iff] at hc
    have e : posM l m.pa - 1 = j := by omega
    rw [e, end_wrap hf] at hc
    rcases hc.1 with h3 | h3
    · exact absurd (of_decide_eq_false h3) (by omega)
    · have := of_decide_eq_false h3; omega
theorem back_rem {l : List M} {m : M} (hr : rightB l = true) (h : ((addM l m).2 != 0) = false) : remM (addM l m).1 m.pa = (l, 0) := by
  obtain ⟨h1, h2, h3, h4⟩ := add_good h
  unfold rightB at hr
  rw [Bool.and_eq_true] at hr
  rw [h4, rem_mid fun y hy => by have := (ahead hr.1 h2 y hy).2.1; omega, List.take_append_drop]
theorem back_find {l : List M} {m : M} (hr : rightB l = true) (h : ((addM l m).2 != 0) = false) : ((findR (addM l m).1 (IntKind.i64.wrap (IntKind.i64.wrap (m.pa + m.nn) - 1))).2 && decide ((findR (addM l m).1 (IntKind.i64.wrap (IntKind.i64.wrap (m.pa + m.nn) - 1))).1 = m)) = true := by
  obtain ⟨h1, h2, h3, h4⟩ := add_good h
  unfold rightB at hr
  rw [Bool.and_eq_true] at hr
  have hf := h1
  unfold fitsB at hf
  rw [decide_eq_true_eq] at hf
  have e : IntKind.i64.wrap (IntKind.i64.wrap (m.pa + m.nn) - 1) = m.pa + m.nn - 1 := by rw [end_wrap h1, IntKind.wrap_i64]; omega
  have hm : inM (m.pa + m.nn - 1) m = true := by
    unfold inM
    rw [end_wrap h1, Bool.and_eq_true, decide_eq_true_eq, decide_eq_true_eq]
    omega
  rw [e, h4, find_mid (fun y hy => by
    obtain ⟨a1, _, a3⟩ := ahead hr.1 h2 y hy
    unfold inM
    rw [end_wrap a1, Bool.and_eq_false_iff, decide_eq_false_iff_not, decide_eq_false_iff_not]
    omega) hm]
  simp
theorem back_right {l : List M} (h : (decide ((40 : Int) < (l.length : Int)) || !rightB l) = false) : l.length ≤ 40 ∧ rightB l = true := by
  rw [Bool.or_eq_false_iff, Bool.not_eq_false', decide_eq_false_iff_not] at h
  exact ⟨by omega, h.2⟩

end Go.Proofs.Ytbeeiecbbmiojaa.Y
