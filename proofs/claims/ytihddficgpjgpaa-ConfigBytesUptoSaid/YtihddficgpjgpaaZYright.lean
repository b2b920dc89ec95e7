/- The document's Right; Right of any label. -/
import Derived.Test.YtihddficgpjgpaaZYrules
import Derived.Test.YtihddficgpjgpaaZRight
namespace Go.Proofs.Ytihddficgpjgpaa.Y
open Go.RowKit
theorem ptr0 : Part rawL (Lay.int .i64) 0 (fun l => l.d) := by
  rintro w F cs l ⟨c1, c2, rfl, h1, h2⟩
  exact ⟨[], c1, c2, rfl, rfl, h1⟩
theorem ptr1 : Part rawL (Lay.sl pairL) 1 (fun l => l.ps) := by
  rintro w F cs l ⟨c1, c2, rfl, h1, h2⟩
  exact ⟨c1, c2, [], by simp, (Lay.int .i64).len h1, h2⟩
def okR (l : Lab) : Nat → Bool
  | 0 => (decide (1 ≤ l.d) && decide (l.d ≤ 4)) && decide ((l.ps.length : Int) ≤ 12)
  | i + 1 => (((((okR l i && decide (1 ≤ (l.ps.getD i (0, 0)).1)) && decide ((l.ps.getD i (0, 0)).1 ≤ 1073741824)) && decide (0 ≤ (l.ps.getD i (0, 0)).2)) && decide ((l.ps.getD i (0, 0)).2 ≤ 4)) && ((l.ps.getD i (0, 0)).2 != l.d)) && (((i : Int) == 0) || decide ((l.ps.getD (i - 1) (0, 0)).1 < (l.ps.getD i (0, 0)).1))
theorem get_getD {l : List (Int × Int)} {i : Nat} (h : i < l.length) : l[i]? = some (l.getD i (0, 0)) := by simp [h]
theorem prev_idx {b : Bool} {i : Nat} {l : List (Int × Int)} (hlt : i < l.length) (hb : l.length ≤ 100000) (h : (b && (((i : Int) == 0) == false)) = true) : 0 ≤ IntKind.i64.wrap ((i : Int) - 1) ∧ l[(IntKind.i64.wrap ((i : Int) - 1)).toNat]? = some (l.getD (i - 1) (0, 0)) := by
  have h0 : i ≠ 0 := by
    rintro rfl
    simp at h
  have e : IntKind.i64.wrap ((i : Int) - 1) = ((i - 1 : Nat) : Int) := by rw [IntKind.wrap_i64]; omega
  rw [e]
  refine ⟨by omega, ?_⟩
  rw [Int.toNat_natCast]
  exact get_getD (by omega)
theorem rightP_one (d m : Int) (p : Int × Int) : rightP d m [p] = (decide (m < p.1) && (decide (p.1 ≤ 1073741824) && (decide (0 ≤ p.2) && (decide (p.2 ≤ 4) && decide (p.2 ≠ d))))) := by
  simp only [rightP, Bool.and_true]
theorem rightP_take (d : Int) : ∀ (ps : List (Int × Int)) (m : Int) (i : Nat) (h : i < ps.length), rightP d m (ps.take (i + 1)) = (rightP d m (ps.take i) && rightP d (if i = 0 then m else (ps.getD (i - 1) (0, 0)).1) [ps[i]])
  | q :: t, m, 0, _ => by simp [rightP]
  | q :: t, m, i + 1, h => by
    rw [List.take_succ_cons, List.take_succ_cons, rightP, rightP, rightP_take d t q.1 i (by simpa using h)]
    have e : (if i + 1 = 0 then m else ((q :: t).getD (i + 1 - 1) (0, 0)).1) = if i = 0 then q.1 else (t.getD (i - 1) (0, 0)).1 := by
      rw [if_neg (by omega)]
      cases i with
      | zero => rfl
      | succ i => rfl
    rw [e]
    simp only [Bool.and_assoc, List.getElem_cons_succ]
theorem okR_take (l : Lab) : ∀ i, i ≤ l.ps.length → okR l i = (((decide (1 ≤ l.d) && decide (l.d ≤ 4)) && decide ((l.ps.length : Int) ≤ 12)) && rightP l.d 0 (l.ps.take i))
  | 0, _ => by simp [okR, rightP]
  | i + 1, h => by
    have hi : i < l.ps.length := by omega
    have e1 : l.ps.getD i (0, 0) = l.ps[i] := by simp [hi]
    rw [okR, okR_take l i (by omega), rightP_take _ _ _ _ hi, e1, rightP_one]
    have hq : i ≠ 0 → rightP l.d 0 (List.take i l.ps) = true → 0 < (l.ps.getD (i - 1) (0, 0)).1 := fun h0 h => by
      have h1 := (rightP_good _ h).1.lt
      have hi1 : i - 1 < l.ps.length := by omega
      have e3 : l.ps.getD (i - 1) (0, 0) = l.ps[i - 1] := by simp [hi1]
      rw [e3]
      exact h1 _ (List.mem_take_iff_getElem.2 ⟨i - 1, by omega, rfl⟩)
    generalize ((decide (1 ≤ l.d) && decide (l.d ≤ 4)) && decide ((l.ps.length : Int) ≤ 12)) = B
    generalize rightP l.d 0 (List.take i l.ps) = D at hq ⊢
    generalize l.ps[i] = p
    generalize (l.ps.getD (i - 1) (0, 0)).1 = q at hq ⊢
    cases B
    · simp
    cases D
    · simp
    rw [Bool.eq_iff_iff]
    by_cases h0 : i = 0
    · subst h0
      simp only [if_pos, Bool.and_eq_true, decide_eq_true_eq, Bool.or_eq_true, beq_iff_eq, bne_iff_ne, true_and]
      constructor
      · rintro ⟨⟨⟨⟨⟨a, b⟩, c⟩, d⟩, e⟩, f⟩
        exact ⟨by omega, b, c, d, e⟩
      · rintro ⟨a, b, c, d, e⟩
        exact ⟨⟨⟨⟨⟨by omega, b⟩, c⟩, d⟩, e⟩, .inl rfl⟩
    · have hq := hq h0 rfl
      rw [if_neg h0]
      have e0 : ¬ ((i : Nat) : Int) = 0 := by omega
      simp only [Bool.and_eq_true, decide_eq_true_eq, Bool.or_eq_true, beq_iff_eq, bne_iff_ne, true_and, e0, false_or]
      constructor
      · rintro ⟨⟨⟨⟨⟨a, b⟩, c⟩, d⟩, e⟩, f⟩
        exact ⟨f, b, c, d, e⟩
      · rintro ⟨a, b, c, d, e⟩
        exact ⟨⟨⟨⟨⟨by omega, b⟩, c⟩, d⟩, e⟩, a⟩
theorem okR_right (l : Lab) : okR l l.ps.length = rightB l := by
  rw [okR_take l _ (Nat.le_refl _), List.take_length]
  unfold rightB
  have : decide ((l.ps.length : Int) ≤ 12) = decide (l.ps.length ≤ 12) := by by_cases h : l.ps.length ≤ 12 <;> simp <;> omega
  rw [this]
  simp [Bool.and_assoc]
set_option maxRecDepth 100000 in
theorem f42r {l : Lab} (hl : l.ps.length ≤ 100000) : Fn False Try.prog 42 [.st rawL l] (.bool (rightB l)) := fn1 fun w F v0 h0 hF => by
  go_enter Try.func42, Try.ntmps42
  refine wp_seq ?_
  refine flowC mixed (st0 (U := False) (N := 78) (e := [(0, true, .st rawL l)]) (F := F) rfl rfl hF ⟨⟨rfl, h0⟩, True.intro⟩) (by kernel_rfl) (by kernel_rfl) (cc rfl (p_box bx_39 g0 (od rfl id))
      (cc rfl (p_assign g0 (oc _)) cn)) fun a1 w1 b1 s1 => ?_
  have z1 := b1
  refine wp_seq ?_
  refine flowC mixed (s1.keep (sc 1 rfl (sc 2 rfl sn))) (by kernel_rfl) (by kernel_rfl) (cc rfl (p_fieldAddr ptr0 fa_39_0 g0 (od rfl id))
      (cc rfl (p_loadI ld_3 g0 (od rfl id))
      (cc rfl (p_bin g0 (od rfl id) (oc _) b_geq_3)
      (cc rfl (p_move g0 (od rfl id))
      (cc rfl (p_fieldAddr ptr0 fa_39_0 (g1 rfl rfl) (od rfl (fun _ => rfl)))
      (cc rfl (p_loadI ld_3 (g1 rfl rfl) (od rfl id))
      (cc rfl (p_bin (g1 rfl rfl) (od rfl id) (oc _) b_leq_3)
      (cc rfl (p_and g0 (od rfl id) (od rfl id))
      (cc rfl (p_move g0 (od rfl id))
      (cc rfl (p_fieldAddr ptr1 fa_39_1 (g1 rfl rfl) (od rfl (fun _ => rfl)))
      (cc rfl (p_load1 rfl ld_37 (g1 rfl rfl) (od rfl id))
      (cc rfl (p_len ln_37 (g1 rfl rfl) (od rfl id))
      (cc rfl (p_bin (g1 rfl rfl) (od rfl id) (oc _) b_leq_3)
      (cc rfl (p_and g0 (od rfl id) (od rfl id))
      (cc rfl (p_assign g0 (od rfl id)) cn))))))))))))))) fun a2 w2 b2 s2 => ?_
  have z2 := z1.trans (b2.mono z1.size)
  refine wp_seq ?_
  refine wp_seq ?_
  refine flowC mixed (s2.keep (sc 1 rfl (sc 2 rfl (sc 3 rfl sn)))) (by kernel_rfl) (by kernel_rfl) (cc rfl (p_assign g0 (oc _)) cn) fun a3 w3 b3 s3 => ?_
  have z3 := z2.trans (b3.mono z2.size)
  refine wp_block ?_
  refine wp_range l.ps.length 4 (fun i => [(3, true, .bool (okR l i))]) (fun _ _ => True) (s3.keep (sc 4 rfl (sc 3 rfl (sc 1 rfl (sc 2 rfl sn))))) z3 True.intro fun i a4 w4 hi1 s4 z4 x4 => ?_
  refine wp_seq ?_
  refine wp_seq ?_
  refine flowC mixed (s4.keep (sc 1 rfl (sc 2 rfl (sc 3 rfl (sc 4 rfl sn))))) (by kernel_rfl) (by kernel_rfl) (cc rfl (p_move g0 (od rfl id))
      (cc rfl (p_fieldAddr ptr1 fa_39_1 g0 (od rfl id))
      (cc rfl (p_load1 rfl ld_37 g0 (od rfl id))
      (cc rfl (p_len ln_37 g0 (od rfl id))
      (cc rfl (p_bin g0 (od rfl id) (od rfl id) b_lss_3) cn))))) fun a5 w5 b5 s5 => ?_
  have z5 := z4.trans (b5.mono z4.size)
  refine s5.cond 24 rfl (fun h => ?_) (fun h => ?_)
  · -- true
    have hlt1 : i < l.ps.length := by simpa using h
    refine wp_skip ?_
    refine wp_seq ?_
    refine wp_block ?_
    refine wp_seq ?_
    refine flowQ 6 mixed (s5.keep (sc 1 rfl (sc 2 rfl (sc 3 rfl (sc 4 rfl (sc 20 rfl (sc 21 rfl (sc 22 rfl (sc 23 rfl (sc 24 rfl sn)))))))))) (by kernel_rfl) (by kernel_rfl) (cc rfl (p_fieldAddr ptr1 fa_39_1 g0 (od rfl id))
        (cc rfl (p_load1 rfl ld_37 g0 (od rfl id))
        (cc rfl (p_move g0 (od rfl id))
        (cc rfl (p_index ix_37 (get_getD hlt1) g0 (od rfl id) (od rfl id))
        (cc rfl (p_load Try.underlying90 rfl sz_90 g0 (od rfl id))
        (ca rfl (m_alloc al_90 (fun h => h.elim)) cn)))))) (by kernel_rfl) (ss rfl rfl rfl rfl puts_st sz_90 rfl rfl ss0) fun a6 w6 b6 s6 => ?_
    have z6 := z5.trans (b6.mono z5.size)
    refine wp_seq ?_
    refine flowT (s6.keep (sc 1 rfl (sc 2 rfl (sc 3 rfl (sc 4 rfl (sc 5 rfl (sc 20 rfl (sc 21 rfl (sc 22 rfl (sc 23 rfl (sc 24 rfl (sc 27 rfl (sc 28 rfl (sc 29 rfl (sc 30 rfl (sc 31 rfl sn)))))))))))))))) (by kernel_rfl) (cc rfl (p_move g0 (od rfl id))
        (cc rfl (p_move g0 (od rfl id))
        (cc rfl (p_fieldAddr pt90_0 fa_90_0 (g1 rfl rfl) (od rfl (fun _ => rfl)))
        (cc rfl (p_loadI ld_70 (g1 rfl rfl) (od rfl id))
        (cc rfl (p_bin (g1 rfl rfl) (od rfl id) (oc _) b_geq_70)
        (cc rfl (p_and g0 (od rfl id) (od rfl id))
        (cc rfl (p_move g0 (od rfl id))
        (cc rfl (p_fieldAddr pt90_0 fa_90_0 (g1 rfl rfl) (od rfl (fun _ => rfl)))
        (cc rfl (p_loadI ld_70 (g1 rfl rfl) (od rfl id))
        (cc rfl (p_bin (g1 rfl rfl) (od rfl id) (oc _) b_leq_70)
        (cc rfl (p_and g0 (od rfl id) (od rfl id))
        (cc rfl (p_move g0 (od rfl id))
        (cc rfl (p_fieldAddr pt90_1 fa_90_1 (g1 rfl rfl) (od rfl (fun _ => rfl)))
        (cc rfl (p_loadI ld_3 (g1 rfl rfl) (od rfl id))
        (cc rfl (p_bin (g1 rfl rfl) (od rfl id) (oc _) b_geq_3)
        (cc rfl (p_and g0 (od rfl id) (od rfl id))
        (cc rfl (p_move g0 (od rfl id))
        (cc rfl (p_fieldAddr pt90_1 fa_90_1 (g1 rfl rfl) (od rfl (fun _ => rfl)))
        (cc rfl (p_loadI ld_3 (g1 rfl rfl) (od rfl id))
        (cc rfl (p_bin (g1 rfl rfl) (od rfl id) (oc _) b_leq_3)
        (cc rfl (p_and g0 (od rfl id) (od rfl id))
        (cc rfl (p_move g0 (od rfl id))
        (cc rfl (p_fieldAddr pt90_1 fa_90_1 (g1 rfl rfl) (od rfl (fun _ => rfl)))
        (cc rfl (p_loadI ld_3 (g1 rfl rfl) (od rfl id))
        (cc rfl (p_fieldAddr ptr0 fa_39_0 (g1 rfl rfl) (od rfl (fun _ => rfl)))
        (cc rfl (p_loadI ld_3 (g1 rfl rfl) (od rfl id))
        (cc rfl (p_bin (g1 rfl rfl) (od rfl id) (od rfl id) b_neq_3)
        (cc rfl (p_and g0 (od rfl id) (od rfl id))
        (cc rfl (p_assign g0 (od rfl id)) cn))))))))))))))))))))))))))))) fun a7 w7 b7 s7 => ?_
    have z7 := z6.trans (b7.mono z6.size)
    refine flowR 17 mixed (s7.keep (sc 1 rfl (sc 2 rfl (sc 3 rfl (sc 4 rfl (sc 5 rfl (sc 20 rfl (sc 21 rfl (sc 22 rfl (sc 23 rfl (sc 24 rfl (sc 27 rfl (sc 28 rfl (sc 29 rfl (sc 30 rfl (sc 31 rfl (sc 32 rfl (sc 33 rfl (sc 34 rfl (sc 35 rfl (sc 36 rfl (sc 37 rfl (sc 38 rfl (sc 39 rfl (sc 40 rfl (sc 41 rfl (sc 42 rfl (sc 43 rfl (sc 44 rfl (sc 45 rfl (sc 46 rfl (sc 47 rfl (sc 48 rfl (sc 49 rfl (sc 50 rfl (sc 51 rfl (sc 52 rfl (sc 53 rfl (sc 54 rfl (sc 55 rfl (sc 56 rfl (sc 57 rfl (sc 58 rfl (sc 59 rfl sn)))))))))))))))))))))))))))))))))))))))))))) (by kernel_rfl) (by kernel_rfl) (cc rfl (p_move g0 (od rfl id))
        (cc rfl (p_move g0 (od rfl id))
        (cc rfl (p_move (g1 rfl rfl) (od rfl (fun _ => rfl)))
        (cc rfl (p_bin (g1 rfl rfl) (od rfl id) (oc _) b_eql_3)
        (cc rfl (p_move (g1 rfl rfl) (od rfl id))
        (cc rfl (p_fieldAddr ptr1 fa_39_1 (g1 rfl rfl) (od rfl (fun _ => rfl)))
        (cc rfl (p_load1 rfl ld_37 (g1 rfl rfl) (od rfl id))
        (cc rfl (p_move (g1 rfl rfl) (od rfl (fun _ => rfl)))
        (cc rfl (p_bin (g1 rfl rfl) (od rfl id) (oc _) b_sub_3)
        (cc rfl (p_indexI (z := l.ps.getD (i - 1) (0, 0)) ix_37 (prev_idx hlt1 hl) (g1 rfl rfl) (od rfl id) (od rfl id))
        (cc rfl (p_fieldAddr pt90_0 fa_90_0 (g1 rfl rfl) (od rfl id))
        (cc rfl (p_loadI ld_70 (g1 rfl rfl) (od rfl id))
        (cc rfl (p_fieldAddr pt90_0 fa_90_0 (g1 rfl rfl) (od rfl (fun _ => rfl)))
        (cc rfl (p_loadI ld_70 (g1 rfl rfl) (od rfl id))
        (cc rfl (p_bin (g1 rfl rfl) (od rfl id) (od rfl id) b_lss_70)
        (cc rfl (p_or (g1 rfl rfl) (od rfl id) (od rfl id))
        (cc rfl (p_and g0 (od rfl id) (od rfl id)) cn))))))))))))))))) fun a8 w8 b8 s8 => ?_
    have z8 := z7.trans (b8.mono z7.size)
    refine chainT (t := []) (cc rfl (p_assign g0 (od rfl id)) cn) (by kernel_rfl) s8 fun a9 w9 b9 s9 => wpList_done ?_
    have z9 := z8.trans (b9.mono z8.size)
    refine flowT (s9.keep (sc 1 rfl (sc 2 rfl (sc 3 rfl (sc 4 rfl (sc 5 rfl (sc 20 rfl (sc 21 rfl (sc 22 rfl (sc 23 rfl (sc 24 rfl (sc 27 rfl (sc 28 rfl (sc 29 rfl (sc 30 rfl (sc 31 rfl (sc 32 rfl (sc 33 rfl (sc 34 rfl (sc 35 rfl (sc 36 rfl (sc 37 rfl (sc 38 rfl (sc 39 rfl (sc 40 rfl (sc 41 rfl (sc 42 rfl (sc 43 rfl (sc 44 rfl (sc 45 rfl (sc 46 rfl (sc 47 rfl (sc 48 rfl (sc 49 rfl (sc 50 rfl (sc 51 rfl (sc 52 rfl (sc 53 rfl (sc 54 rfl (sc 55 rfl (sc 56 rfl (sc 57 rfl (sc 58 rfl (sc 59 rfl (sc 60 rfl (sc 61 rfl (sc 62 rfl (sc 63 rfl (sc 64 rfl (sc 65 rfl (sc 66 rfl (sc 67 rfl (sc 68 rfl (sc 69 rfl (sc 70 rfl (sc 71 rfl (sc 72 rfl (sc 73 rfl (sc 74 rfl (sc 75 rfl (sc 76 rfl sn))))))))))))))))))))))))))))))))))))))))))))))))))))))))))))) (by kernel_rfl) (cc rfl (p_move g0 (od rfl id))
        (cc rfl (p_bin g0 (od rfl id) (oc _) (inc_3 (by omega)))
        (cc rfl (p_assign g0 (od rfl id)) cn))) fun a10 w10 b10 s10 => ?_
    have z10 := z9.trans (b10.mono z9.size)
    exact ⟨hlt1, s10.to _ ⟨rfl, rfl, rfl, rfl, True.intro⟩, z10, True.intro⟩
  · -- false
    obtain rfl : i = l.ps.length := by have := of_decide_eq_false h; omega
    refine wp_exit ?_
    refine wp_seq ?_
    refine flowT (s5.keep (sc 1 rfl (sc 2 rfl (sc 3 rfl (sc 4 rfl sn))))) (by kernel_rfl) (cc rfl (p_move g0 (od rfl id))
        (cc rfl (p_assign g0 (od rfl id)) cn)) fun a11 w11 b11 s11 => ?_
    have z11 := z5.trans (b11.mono z5.size)
    exact wp_ret (ret_tmp (fn := Try.f42) (s11.more 2 (y := .bool (rightB l)) (show _ = _ from (s11.get 2 (y := .bool (okR l l.ps.length)) rfl).trans (congrArg Value.bool (okR_right l)))) 2 rfl rfl (fun _ h => h) z11)
theorem f49r {U : Prop} {l : Lab} (hl : l.ps.length ≤ 100000) : Fn U Try.prog 49 [.st rawL l] (.bool (rightB l)) := fn1 fun w _ v1 h1 _ => gives_val (right_any v1 l w (raw_in h1) (by omega))
theorem lab_raw {l : Lab} {n : Nat} {w : World} {F : Cell → Prop} {v : Value} (h : (Sym.lb l n).on w F v) : (Sym.st rawL l).on w F v := by
  obtain ⟨cs, e, h1, _⟩ := h
  exact ⟨cs, e, h1⟩
theorem f42 {U : Prop} {a : Lab} {m : Nat} (hl : m ≤ 100000) : Fn U Try.prog 42 [.lb a m] (.bool (rightB a)) := fn1 fun w F v1 h1 hF => f42r (by have := (lab_in h1).2.len; omega) w F [v1] rfl (fun i v y e1 e2 => by
  rcases i with _ | i
  · simp at e1 e2; subst e1 e2; exact lab_raw h1
  · simp at e1) ⟨hF.lt, fun h => h.elim⟩
end Go.Proofs.Ytihddficgpjgpaa.Y
