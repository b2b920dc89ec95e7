/- MapsRight: maps may be a space's just if each may be, they rise, none is over another, and they aren't too many. -/
import Derived.Test.YtbeeiecbbmiojaaYfit
namespace Go.Proofs.Ytbeeiecbbmiojaa.Y
open Go.RowKit Go.ChangeShapes Go.WideShapes Go.ChangeAt

/-- What the law makes of the first i maps. -/
def stepW (b : Bool) (l : List M) (i : Nat) (m : M) : Bool := if 0 < i then ((b && fitsB m) && decide ((l.getD (i - 1) noM).pa < m.pa)) && !overB (l.getD (i - 1) noM) m else b && fitsB m
def wantTo (l : List M) : Nat → Bool
  | 0 => decide ((l.length : Int) ≤ 16)
  | i + 1 => stepW (wantTo l i) l i (l.getD i noM)
theorem getD_at {l : List M} {i : Nat} {m : M} (h : l[i]? = some m) : l.getD i noM = m := by simp [List.getD_eq_getElem?_getD, h]
theorem want_step {l : List M} {i : Nat} {m : M} (hm : l[i]? = some m) (h : decide ((0 : Int) < (i : Int)) = true) : (((wantTo l i && fitsB m) && decide ((l.getD (i - 1) noM).pa < m.pa)) && !overB (l.getD (i - 1) noM) m) = wantTo l (i + 1) := by
  have h : 0 < i := by simpa using h
  show _ = stepW (wantTo l i) l i (l.getD i noM)
  rw [getD_at hm, stepW, if_pos h]
theorem want_first {l : List M} {i : Nat} {m : M} (hm : l[i]? = some m) (h : decide ((0 : Int) < (i : Int)) = false) : (wantTo l i && fitsB m) = wantTo l (i + 1) := by
  have h : ¬ 0 < i := by simpa using h
  show _ = stepW (wantTo l i) l i (l.getD i noM)
  rw [getD_at hm, stepW, if_neg h]
def lastEnd : Int → List M → Int
  | e, [] => e
  | _, x :: t => lastEnd (x.pa + x.nn) t
theorem right_snoc : ∀ (l : List M) (e : Int) (m : M), rightFrom e (l ++ [m]) = (rightFrom e l && (fitsB m && decide (lastEnd e l ≤ m.pa)))
  | [], e, m => by
    show ((fitsB m && decide (e ≤ m.pa)) && true) = (true && (fitsB m && decide (e ≤ m.pa)))
    rw [Bool.and_true, Bool.true_and]
  | x :: t, e, m => by
    rw [List.cons_append, rightFrom, right_snoc t, rightFrom, lastEnd]
    simp only [Bool.and_assoc]
theorem last_snoc : ∀ (l : List M) (e : Int) (m : M), lastEnd e (l ++ [m]) = m.pa + m.nn
  | [], _, _ => rfl
  | _ :: t, _, m => by rw [List.cons_append, lastEnd, last_snoc t]
theorem take_snoc {l : List M} {i : Nat} (h : i < l.length) : l.take (i + 1) = l.take i ++ [l.getD i noM] := by
  rw [List.take_succ_eq_append_getElem h, List.getD_eq_getElem?_getD, List.getElem?_eq_getElem h]; rfl
theorem want_right (l : List M) : ∀ (i : Nat), i ≤ l.length → wantTo l i = (decide ((l.length : Int) ≤ 16) && rightFrom 0 (l.take i))
  | 0, _ => by simp [wantTo, rightFrom]
  | i + 1, h => by
    have ih := want_right l i (by omega)
    show stepW (wantTo l i) l i (l.getD i noM) = _
    rw [take_snoc (by omega), right_snoc, ih]
    generalize hm : l.getD i noM = m
    unfold stepW
    by_cases h0 : 0 < i
    · rw [if_pos h0]
      obtain ⟨j, rfl⟩ : ∃ j, i = j + 1 := ⟨i - 1, by omega⟩
      rw [take_snoc (by omega), last_snoc, right_snoc]
      rw [Nat.add_sub_cancel]
      generalize l.getD j noM = q
      unfold overB
      by_cases hq : fitsB q = true
      · by_cases hf : fitsB m = true
        · rw [end_wrap hq, end_wrap hf]
          unfold fitsB at hq hf
          rw [decide_eq_true_eq] at hq hf
          rw [Bool.eq_iff_iff]
          simp only [Bool.and_eq_true, Bool.not_eq_true', Bool.and_eq_false_iff, decide_eq_true_eq, decide_eq_false_iff_not, fitsB]
          constructor
          · rintro ⟨⟨⟨⟨a1, a2⟩, a3⟩, a4⟩, a5⟩
            exact ⟨a1, a2, a3, by omega⟩
          · rintro ⟨a1, a2, a3, a4⟩
            exact ⟨⟨⟨⟨a1, a2⟩, a3⟩, by omega⟩, by omega⟩
        · simp [hf]
      · simp [hq]
    · obtain rfl : i = 0 := by omega
      rw [if_neg h0]
      have : ∀ b : Bool, (b && fitsB m) = (b && (fitsB m && decide ((0 : Int) ≤ m.pa))) := fun b => by
        by_cases hf : fitsB m = true
        · have h2 := hf
          unfold fitsB at h2
          rw [decide_eq_true_eq] at h2
          simp [hf, h2.2.2.1]
        · simp [hf]
      simp only [List.take_zero, rightFrom, lastEnd, Bool.and_true, Bool.true_and]
      exact this _
theorem want_law (l : List M) : (rightB l == wantTo l l.length) = true := by
  rw [want_right l _ (Nat.le_refl _), List.take_length]
  unfold rightB
  rw [Bool.and_comm]
  simp
set_option maxRecDepth 100000 in
theorem mapsRight_walk (w : World) (v0 : Value) (l : List M) (h0 : (.one (Lay.sl mapL) l : Sym).on w noF v0) : Calls Try.prog 5 #[v0] w fun e w' => e = .returned (.bool true) ∧ Below w.heap.size w w' := by
  go_enter Try.func5, Try.ntmps5
  refine wp_seq ?_
  refine flowC mixed (st0 (U := False) (N := 55) (e := [(0, true, .one (Lay.sl mapL) l)]) (F := noF) rfl rfl (fok_none False w) ⟨⟨rfl, h0⟩, True.intro⟩) (by kernel_rfl) (by kernel_rfl) (cc rfl (p_assign g0 (oc _)) cn) fun a1 w1 b1 s1 => ?_
  have z1 := b1
  refine wp_seq ?_
  refine wp_seq ?_
  refine flowC mixed (s1.keep (sc 0 rfl (sc 2 rfl sn))) (by kernel_rfl) (by kernel_rfl) (cc rfl (p_call 20 g0 ox0 (fun _ _ => by kernel_rfl) f20)
      (cc rfl (p_not g0 (od rfl id)) cn)) fun a2 w2 b2 s2 => ?_
  have z2 := z1.trans (b2.mono z1.size)
  refine s2.cond 7 rfl (fun h => absurd h (by decide)) fun _ => ?_
  refine wp_skip ?_
  refine wp_seq ?_
  refine wp_seq ?_
  refine flowC mixed (s2.keep (sc 0 rfl (sc 2 rfl sn))) (by kernel_rfl) (by kernel_rfl) (cc rfl (p_move g0 (od rfl id))
      (cc rfl (p_len ln_41 g0 (od rfl id))
      (cc rfl (p_bin g0 (od rfl id) (oc _) b_gtr_3) cn))) fun a3 w3 b3 s3 => ?_
  have z3 := z2.trans (b3.mono z2.size)
  refine s3.cond 10 rfl (fun h10 => ?_) (fun h10 => ?_)
  · -- true
    refine wp_seq ?_
    refine flowT (s3.keep (sc 0 rfl (sc 2 rfl sn))) (by kernel_rfl) (cc rfl (p_assign g0 (oc _)) cn) fun a4 w4 b4 s4 => ?_
    have z4 := z3.trans (b4.mono z3.size)
    exact wp_ret (ret_law (fn := Try.f5) s4 2 rfl rfl rfl z4)
  · -- false
    refine wp_skip ?_
    refine wp_seq ?_
    refine flowC mixed (s3.keep (sc 0 rfl (sc 2 rfl sn))) (by kernel_rfl) (by kernel_rfl) (cc rfl (p_move g0 (od rfl id))
        (cc rfl (p_len ln_41 g0 (od rfl id))
        (cc rfl (p_bin g0 (od rfl id) (oc _) b_leq_3)
        (cc rfl (p_assign g0 (od rfl id)) cn)))) fun a5 w5 b5 s5 => ?_
    have z5 := z3.trans (b5.mono z3.size)
    have hl : l.length ≤ 100 := by have := of_decide_eq_false h10; omega
    refine wp_seq ?_
    refine wp_seq ?_
    refine flowC mixed (s5.keep (sc 0 rfl (sc 2 rfl (sc 3 rfl sn)))) (by kernel_rfl) (by kernel_rfl) (cc rfl (p_move g0 (od rfl id))
        (cc rfl (p_len ln_41 g0 (od rfl id))
        (cc rfl (p_move g0 (oc _)) cn))) fun a6 w6 b6 s6 => ?_
    have z6 := z5.trans (b6.mono z5.size)
    refine wp_block ?_
    refine wp_range l.length 16 (fun i => [(3, true, .bool (wantTo l i))]) (fun _ _ => True) (s6.keep (sc 16 rfl (sc 3 rfl (sc 0 rfl (sc 2 rfl (sc 14 rfl (sc 15 rfl sn))))))) z6 True.intro fun i a7 w7 hi1 s7 z7 x7 => ?_
    refine wp_seq ?_
    refine flowC mixed (s7.keep (sc 0 rfl (sc 2 rfl (sc 3 rfl (sc 14 rfl (sc 15 rfl (sc 16 rfl sn))))))) (by kernel_rfl) (by kernel_rfl) (cc rfl (p_bin g0 (od rfl id) (od rfl id) b_lss_3) cn) fun a8 w8 b8 s8 => ?_
    have z8 := z7.trans (b8.mono z7.size)
    refine wp_seq ?_
    refine s8.cond 17 rfl (fun h => ?_) (fun h => ?_)
    · -- true
      have hlt1 : i < l.length := by simpa using h
      obtain ⟨m, em⟩ : ∃ x, l[i]? = some x := ⟨_, List.getElem?_eq_getElem hlt1⟩
      refine wp_skip ?_
      refine wp_seq ?_
      refine wp_block ?_
      refine wp_seq ?_
      refine flowQ 5 mixed (s8.keep (sc 0 rfl (sc 2 rfl (sc 3 rfl (sc 14 rfl (sc 15 rfl (sc 16 rfl (sc 17 rfl sn)))))))) (by kernel_rfl) (by kernel_rfl) (cc rfl (p_move g0 (od rfl id))
          (cc rfl (p_index ix_41 em g0 (od rfl id) (od rfl id))
          (cc rfl (p_load Try.underlying69 rfl sz_69 g0 (od rfl id))
          (ca rfl (m_alloc al_69 (fun h => h.elim))
          (cc rfl (p_assign g0 (od rfl id)) cn))))) (by kernel_rfl) (ss rfl rfl rfl rfl puts_st sz_69 rfl rfl ss0) fun a9 w9 b9 s9 => ?_
      have z9 := z8.trans (b9.mono z8.size)
      refine wp_seq ?_
      refine flowT (s9.keep (sc 0 rfl (sc 2 rfl (sc 3 rfl (sc 4 rfl (sc 5 rfl (sc 14 rfl (sc 15 rfl (sc 16 rfl (sc 17 rfl (sc 18 rfl (sc 19 rfl (sc 20 rfl sn))))))))))))) (by kernel_rfl) (cc rfl (p_move g0 (od rfl id))
          (cc rfl (p_move g0 (od rfl id))
          (cc rfl (p_load Try.underlying69 rfl sz_69 (g1 rfl rfl) (od rfl (fun _ => rfl)))
          (cc rfl (p_call 21 (g1 rfl rfl) (ox (od rfl id) ox0) (fun _ _ => by kernel_rfl) f21)
          (cc rfl (p_and g0 (od rfl id) (od rfl id))
          (cc rfl (p_assign g0 (od rfl id)) cn)))))) fun a10 w10 b10 s10 => ?_
      have z10 := z9.trans (b10.mono z9.size)
      refine wp_seq ?_
      refine flowC mixed (s10.keep (sc 0 rfl (sc 2 rfl (sc 3 rfl (sc 4 rfl (sc 5 rfl (sc 14 rfl (sc 15 rfl (sc 16 rfl (sc 17 rfl (sc 18 rfl (sc 19 rfl (sc 20 rfl (sc 21 rfl (sc 22 rfl (sc 23 rfl (sc 24 rfl (sc 25 rfl sn)))))))))))))))))) (by kernel_rfl) (by kernel_rfl) (cc rfl (p_move g0 (od rfl id))
          (cc rfl (p_bin g0 (od rfl id) (oc _) b_gtr_3) cn)) fun a11 w11 b11 s11 => ?_
      have z11 := z10.trans (b11.mono z10.size)
      refine s11.cond 27 rfl (fun h27 => ?_) (fun h27 => ?_)
      · -- true
        refine flowR 22 mixed (s11.keep (sc 0 rfl (sc 2 rfl (sc 3 rfl (sc 4 rfl (sc 5 rfl (sc 14 rfl (sc 15 rfl (sc 16 rfl (sc 17 rfl (sc 18 rfl (sc 19 rfl (sc 20 rfl (sc 21 rfl (sc 22 rfl (sc 23 rfl (sc 24 rfl (sc 25 rfl (sc 26 rfl (sc 27 rfl sn)))))))))))))))))))) (by kernel_rfl) (by kernel_rfl) (cc rfl (p_move g0 (od rfl id))
            (cc rfl (p_move g0 (od rfl id))
            (cc rfl (p_move (g1 rfl rfl) (od rfl (fun _ => rfl)))
            (cc rfl (p_move (g1 rfl rfl) (od rfl (fun _ => rfl)))
            (cc rfl (p_bin (g1 rfl rfl) (od rfl id) (oc _) b_sub_3)
            (cc rfl (p_indexI (z := l.getD (i - 1) noM) ix_41 (fun _ => prev_at (by omega) (by omega) h27) (g1 rfl rfl) (od rfl id) (od rfl id))
            (cc rfl (p_fieldAddr pt69_0 fa_69_0 (g1 rfl rfl) (od rfl id))
            (cc rfl (p_loadI ld_3 (g1 rfl rfl) (od rfl id))
            (cc rfl (p_fieldAddr pt69_0 fa_69_0 (g1 rfl rfl) (od rfl (fun _ => rfl)))
            (cc rfl (p_loadI ld_3 (g1 rfl rfl) (od rfl id))
            (cc rfl (p_bin (g1 rfl rfl) (od rfl id) (od rfl id) b_lss_3)
            (cc rfl (p_and g0 (od rfl id) (od rfl id))
            (cc rfl (p_move g0 (od rfl id))
            (cc rfl (p_move (g1 rfl rfl) (od rfl (fun _ => rfl)))
            (cc rfl (p_move (g1 rfl rfl) (od rfl (fun _ => rfl)))
            (cc rfl (p_bin (g1 rfl rfl) (od rfl id) (oc _) b_sub_3)
            (cc rfl (p_indexI (z := l.getD (i - 1) noM) ix_41 (fun _ => prev_at (by omega) (by omega) h27) (g1 rfl rfl) (od rfl id) (od rfl id))
            (cc rfl (p_load Try.underlying69 rfl sz_69 (g1 rfl rfl) (od rfl id))
            (cc rfl (p_load Try.underlying69 rfl sz_69 (g1 rfl rfl) (od rfl (fun _ => rfl)))
            (cc rfl (p_call 22 (g1 rfl rfl) (ox (od rfl id) (ox (od rfl id) ox0)) (fun _ _ => by kernel_rfl) f22)
            (cc rfl (p_not (g1 rfl rfl) (od rfl id))
            (cc rfl (p_and g0 (od rfl id) (od rfl id)) cn)))))))))))))))))))))) fun a12 w12 b12 s12 => ?_
        have z12 := z11.trans (b12.mono z11.size)
        refine chainT (t := []) (cc rfl (p_assign g0 (od rfl id)) cn) (by kernel_rfl) s12 fun a13 w13 b13 s13 => wpList_done ?_
        have z13 := z12.trans (b13.mono z12.size)
        have s13 := s13.more 3 (y := .bool (wantTo l (i + 1))) (bool_as (s13.get 3 rfl) (want_step em h27))
        refine flowT (s13.keep (sc 0 rfl (sc 2 rfl (sc 3 rfl (sc 4 rfl (sc 5 rfl (sc 14 rfl (sc 15 rfl (sc 16 rfl (sc 17 rfl (sc 18 rfl (sc 19 rfl (sc 20 rfl (sc 21 rfl (sc 22 rfl (sc 23 rfl (sc 24 rfl (sc 25 rfl (sc 26 rfl (sc 27 rfl (sc 28 rfl (sc 29 rfl (sc 30 rfl (sc 31 rfl (sc 32 rfl (sc 33 rfl (sc 34 rfl (sc 35 rfl (sc 36 rfl (sc 37 rfl (sc 38 rfl (sc 39 rfl (sc 40 rfl (sc 41 rfl (sc 42 rfl (sc 43 rfl (sc 44 rfl (sc 45 rfl (sc 46 rfl (sc 47 rfl (sc 48 rfl (sc 49 rfl sn)))))))))))))))))))))))))))))))))))))))))) (by kernel_rfl) (cc rfl (p_bin g0 (od rfl id) (oc _) (inc_3 (by omega)))
            (cc rfl (p_move g0 (od rfl id)) cn)) fun a14 w14 b14 s14 => ?_
        have z14 := z13.trans (b14.mono z13.size)
        exact ⟨hlt1, s14.to _ ⟨rfl, rfl, rfl, rfl, rfl, rfl, True.intro⟩, z14, True.intro⟩
      · -- false
        have s11 := s11.more 3 (y := .bool (wantTo l (i + 1))) (bool_as (s11.get 3 rfl) (want_first em h27))
        refine wp_skip ?_
        refine flowT (s11.keep (sc 0 rfl (sc 2 rfl (sc 3 rfl (sc 4 rfl (sc 5 rfl (sc 14 rfl (sc 15 rfl (sc 16 rfl (sc 17 rfl (sc 18 rfl (sc 19 rfl (sc 20 rfl (sc 21 rfl (sc 22 rfl (sc 23 rfl (sc 24 rfl (sc 25 rfl (sc 26 rfl (sc 27 rfl sn)))))))))))))))))))) (by kernel_rfl) (cc rfl (p_bin g0 (od rfl id) (oc _) (inc_3 (by omega)))
            (cc rfl (p_move g0 (od rfl id)) cn)) fun a15 w15 b15 s15 => ?_
        have z15 := z11.trans (b15.mono z11.size)
        exact ⟨hlt1, s15.to _ ⟨rfl, rfl, rfl, rfl, rfl, rfl, True.intro⟩, z15, True.intro⟩
    · -- false
      obtain rfl : i = l.length := by have := of_decide_eq_false h; (try dsimp only at this); omega
      refine wp_exit ?_
      refine wp_seq ?_
      refine flowT (s8.keep (sc 0 rfl (sc 2 rfl (sc 3 rfl (sc 14 rfl (sc 15 rfl (sc 16 rfl sn))))))) (by kernel_rfl) (cc rfl (p_move g0 (od rfl id))
          (cc rfl (p_call 23 g0 (ox (od rfl id) ox0) (fun _ _ => by kernel_rfl) (f23 (by unfold maxLen; omega)))
          (cc rfl (p_move g0 (od rfl id))
          (cc rfl (p_bin g0 (od rfl id) (od rfl id) b_eql_4)
          (cc rfl (p_assign g0 (od rfl id)) cn))))) fun a16 w16 b16 s16 => ?_
      have z16 := z8.trans (b16.mono z8.size)
      exact wp_ret (ret_law (fn := Try.f5) s16 2 rfl rfl (want_law l) z16)

set_option maxRecDepth 100000 in
theorem mapsRight_lifted (os : Os) (started : os.Started) (H : Type) (enc : TypeId × Value → H) :
    ReturnsInHanded {} Try.checked os 5 .any (Rows.mapsRightSpec.pre6 enc Try.prog Try.f5 Rows.mapsRightRow.domain false) (Rows.mapsRightSpec.post enc Try.prog Try.f5 false true false false) := by
  refine lifted_of (C := Try.checked) laidOut own started (by kernel_rfl) Try.func5 rfl Try.underlying4 (by kernel_rfl) rfl
    (fun ds hds => by match ds, hds with | [_], _ => rfl)
    (ChangeSpec.witness6 (enc := enc) (C := Try.checked) false ⟨#[], #[.slice none 0 0], []⟩ 8 (by kernel_rfl) (by kernel_rfl) (by kernel_rfl) (by kernel_rfl)) ?_
  intro w base args ds ps hval0 hA0 hlt
  have hval : ∀ (j : Nat) t v, Try.f5.params[j]? = some t → args[j]? = some v → Value.okWide Try.prog w .any base t v := hval0
  have hA : DataW.TrodAll enc Try.prog w 0 (fun _ => true) true Try.f5.params.toList args.toList ds ps := hA0
  rw [Try.params5] at hA hval
  obtain ⟨v0, vs0, d0, ds0, p0, q0, hargs, rfl, rfl, h0, r0⟩ := trodAll_cons hA
  obtain ⟨rfl, rfl, rfl⟩ := trodAll_nil r0
  obtain rfl : args = #[v0] := by cases args; simp_all
  obtain ⟨x0, o0, s0⟩ := open_sl Try.underlying41 opens_maps (hval 0 41 v0 rfl rfl) h0 (fun x hx => hlt x (List.mem_append_left _ hx))
  exact mapsRight_walk w v0 x0 s0

set_option maxRecDepth 100000 in
theorem mapsRight_facts : joinedFacts Try.pinned.checked.prog 5 Try.f5 Rows.mapsRightSpec Rows.mapsRightRow = true := by
  show joinedFacts Try.prog 5 Try.f5 Rows.mapsRightSpec Rows.mapsRightRow = true
  unfold joinedFacts
  rw [mayEnter_ok, liftsFinal_ok, make_ok]
  kernel_rfl
theorem mapsRight_holds : Rows.MapsRightSaid :=
  OpenClaim.holds_of_wide 5 Try.f5 rfl rfl rfl rfl rfl rfl rfl ⟨rfl, rfl, rfl, rfl, rfl⟩ rfl rfl rfl rfl rfl (by kernel_rfl) Try.func5 mapsRight_facts
    (of_decide_eq_true (by kernel_rfl)) (by unfold Func.isWrapper; rw [if_neg (of_decide_eq_false (by kernel_rfl))]; exact ⟨rfl, rfl⟩)
    (fun os started H enc _ => mapsRight_lifted os started H enc)
#print axioms mapsRight_holds

end Go.Proofs.Ytbeeiecbbmiojaa.Y
