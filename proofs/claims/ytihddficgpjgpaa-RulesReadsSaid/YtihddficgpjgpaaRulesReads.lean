/- RulesReads: what is read by one that is seen is seen, too, unless the reader owns what the observer doesn't own, nor has at 3. -/
import Derived.Test.YtihddficgpjgpaaXmath
namespace Go.Proofs.Ytihddficgpjgpaa.X
open Go.RowKit Go.ChangeShapes Go.WideShapes Go.ChangeAt

theorem trust_at {o t : Lab} {i : Nat} {c : Int} (h : trustedB o t = true) (hc : (ownsL t)[i]? = some c) : ((o.lv c != 0) && (o.lv c != 4)) = false := by
  have := List.all_eq_true.1 h c (List.mem_of_getElem? hc)
  unfold trustP at this
  rw [Bool.not_eq_true'] at this
  exact this
theorem reads_trust {a b c : Lab} (h : ((!readB a b || !readB c (restL a)) || !trustedB c a) = false) : trustedB c a = true := by
  simp only [Bool.or_eq_false_iff, Bool.not_eq_false'] at h
  exact h.2
theorem reads_law {a b c : Lab} (fa : Fine a) (fb : Fine b) (fc : Fine c) (h : ((!readB a b || !readB c (restL a)) || !trustedB c a) = false) : readB c b = true := by
  have A := fa.good
  have g1 : Good (raiseL a) := good_turn 0 5 A
  have g2 : Good (raiseL c) := good_turn 0 5 fc.good
  have g3 : Good (restL a) := good_turn 0 2 A
  simp only [Bool.or_eq_false_iff, Bool.not_eq_false'] at h
  obtain ⟨⟨h1, h2⟩, h3⟩ := h
  have k := (trusted_iff fa).1 h3
  refine (leqB_iff fb.good g2).2 fun x => ?_
  have a1 := (leqB_iff fb.good g1).1 h1 x
  have a2 := (leqB_iff g3 g2).1 h2 x
  have a3 := k x
  have a4 := fa.lv4 x
  have a5 := fb.lv4 x
  have a6 := fc.lv4 x
  rw [lv_raise A] at a1
  rw [lv_rest A, lv_raise fc.good] at a2
  rw [lv_raise fc.good]
  unfold turnF at *
  split at a1 <;> split at a2 <;> repeat' split
  all_goals omega
set_option maxRecDepth 100000 in
theorem rulesReads_walk (w : World) (v0 : Value) (a b c d : Lab) (h0 : (.st (Lay.arr sdL 4) [a, b, c, d] : Sym).on w noF v0) (fa : Fine a) (fb : Fine b) (fc : Fine c) (_fd : Fine d) : Calls Try.prog 18 #[v0] w fun e w' => e = .returned (.bool true) ∧ Below w.heap.size w w' := by
  have hol : (ownsL a).length ≤ 1000 := by have := owns_len a; have := fa.len; omega
  go_enter Try.func18, Try.ntmps18
  refine wp_seq ?_
  refine flowC mixed (st0 (U := True) (N := 57) (e := [(0, true, .st (Lay.arr sdL 4) [a, b, c, d])]) (F := noF) rfl rfl (fok_none True w) ⟨⟨rfl, h0⟩, True.intro⟩) (by kernel_rfl) (by kernel_rfl) (cc rfl (p_box bx_74 g0 (od rfl id))
      (cc rfl (p_assign g0 (oc _)) cn)) fun a1 w1 b1 s1 => ?_
  have z1 := b1
  refine wp_seq ?_
  refine wp_seq ?_
  refine flowC mixed (s1.keep (sc 1 rfl (sc 2 rfl sn))) (by kernel_rfl) (by kernel_rfl) (cc rfl (p_call 53 g0 ox0 (fun _ _ => by kernel_rfl) f53t)
      (cc rfl (p_not g0 (od rfl id)) cn)) fun a2 w2 b2 s2 => ?_
  have z2 := z1.trans (b2.mono z1.size)
  refine s2.cond 9 rfl (fun h => absurd h (by decide)) fun _ => ?_
  refine wp_skip ?_
  refine wp_seq ?_
  refine flowV 15 mixed (s2.keep (sc 1 rfl (sc 2 rfl sn))) (by kernel_rfl) (cc rfl (p_indexArr ia_74_0 rfl g0 (od rfl id))
      (cc rfl (p_load Try.underlying36 rfl sz_36 g0 (od rfl id))
      (cc rfl (p_call 36 g0 (ox (od rfl id) ox0) (fun _ _ => by kernel_rfl) f36)
      (cc rfl (p_indexArr ia_74_1 rfl g0 (od rfl id))
      (cc rfl (p_load Try.underlying36 rfl sz_36 g0 (od rfl id))
      (cc rfl (p_call 36 g0 (ox (od rfl id) ox0) (fun _ _ => by kernel_rfl) f36)
      (cc rfl (p_indexArr ia_74_2 rfl g0 (od rfl id))
      (cc rfl (p_load Try.underlying36 rfl sz_36 g0 (od rfl id))
      (cc rfl (p_call 36 g0 (ox (od rfl id) ox0) (fun _ _ => by kernel_rfl) f36)
      (ca rfl (m_alloc al_39 nu39)
      (ca rfl (m_alloc al_39 nu39)
      (ca rfl (m_alloc al_39 nu39)
      (cs rfl
      (cs rfl
      (cs rfl cn))))))))))))))) (sv (m := 12) rfl rfl rfl rfl puts_st sz_39 (puts_nou nul) (sv (m := 13) rfl rfl rfl rfl puts_st sz_39 (puts_nou nul) (sv (m := 14) rfl rfl rfl rfl puts_st sz_39 (puts_nou nul) sv0))) (by kernel_rfl) (by kernel_rfl) (by kernel_rfl) fun a3 w3 b3 s3 => ?_
  have z3 := z2.trans (b3.mono z2.size)
  refine wpList_done ?_
  refine wp_seq ?_
  refine wp_seq ?_
  refine flowC mixed (s3.keep (sc 2 rfl (sc 3 rfl (sc 4 rfl (sc 5 rfl sn))))) (by kernel_rfl) (by kernel_rfl) (cc rfl (p_load Try.underlying39 rfl sz_39 g0 (od rfl id))
      (cc rfl (p_load Try.underlying39 rfl sz_39 g0 (od rfl id))
      (cc rfl (p_call 54 g0 (ox (od rfl id) (ox (od rfl id) ox0)) (fun _ _ => by kernel_rfl) (f54 (by decide) (by decide)))
      (cc rfl (p_not g0 (od rfl id))
      (cc rfl (p_move g0 (od rfl id))
      (cc rfl (p_load Try.underlying39 rfl sz_39 (g1 rfl rfl) (od rfl (fun _ => rfl)))
      (cc rfl (p_load Try.underlying39 rfl sz_39 (g1 rfl rfl) (od rfl (fun _ => rfl)))
      (cc rfl (p_call 63 (g1 rfl rfl) (ox (od rfl id) ox0) (fun _ _ => by kernel_rfl) (f63 (by decide)))
      (cc rfl (p_call 62 (g1 rfl rfl) (ox (od rfl id) (ox (od rfl id) ox0)) (fun _ _ => by kernel_rfl) (f62 (by decide) (by decide)))
      (cc rfl (p_not (g1 rfl rfl) (od rfl id))
      (cc rfl (p_or g0 (od rfl id) (od rfl id))
      (cc rfl (p_move g0 (od rfl id))
      (cc rfl (p_load Try.underlying39 rfl sz_39 (g1 rfl rfl) (od rfl (fun _ => rfl)))
      (cc rfl (p_load Try.underlying39 rfl sz_39 (g1 rfl rfl) (od rfl (fun _ => rfl)))
      (cc rfl (p_call 64 (g1 rfl rfl) (ox (od rfl id) (ox (od rfl id) ox0)) (fun _ _ => by kernel_rfl) (f64 (by decide) (by decide)))
      (cc rfl (p_not (g1 rfl rfl) (od rfl id))
      (cc rfl (p_or g0 (od rfl id) (od rfl id)) cn))))))))))))))))) fun a4 w4 b4 s4 => ?_
  have z4 := z3.trans (b4.mono z3.size)
  refine s4.cond 35 rfl (fun h35 => ?_) (fun h35 => ?_)
  · -- true
    refine wp_seq ?_
    refine flowT (s4.keep (sc 2 rfl (sc 3 rfl (sc 4 rfl (sc 5 rfl sn))))) (by kernel_rfl) (cc rfl (p_assign g0 (oc _)) cn) fun a5 w5 b5 s5 => ?_
    have z5 := z4.trans (b5.mono z4.size)
    exact wp_ret (ret_law (fn := Try.f18) s5 2 rfl rfl rfl z5)
  · -- false
    refine wp_skip ?_
    refine wp_seq ?_
    refine wp_seq ?_
    refine flowC mixed (s4.keep (sc 2 rfl (sc 3 rfl (sc 4 rfl (sc 5 rfl sn))))) (by kernel_rfl) (by kernel_rfl) (cc rfl (p_load Try.underlying39 rfl sz_39 g0 (od rfl id))
        (cc rfl (p_call 56 g0 (ox (od rfl id) ox0) (fun _ _ => by kernel_rfl) (f56 (by decide)))
        (cc rfl (p_len ln_75 g0 (od rfl id))
        (cc rfl (p_move g0 (oc _)) cn)))) fun a6 w6 b6 s6 => ?_
    have z6 := z4.trans (b6.mono z4.size)
    refine wp_block ?_
    refine wp_range ((ownsL a).length) 39 (fun i => []) (fun _ _ => True) (s6.keep (sc 39 rfl (sc 2 rfl (sc 4 rfl (sc 5 rfl (sc 37 rfl (sc 38 rfl sn))))))) z6 True.intro fun i a7 w7 hi1 s7 z7 x7 => ?_
    refine wp_seq ?_
    refine flowC mixed (s7.keep (sc 2 rfl (sc 4 rfl (sc 5 rfl (sc 37 rfl (sc 38 rfl (sc 39 rfl sn))))))) (by kernel_rfl) (by kernel_rfl) (cc rfl (p_bin g0 (od rfl id) (od rfl id) b_lss_3) cn) fun a8 w8 b8 s8 => ?_
    have z8 := z7.trans (b8.mono z7.size)
    refine wp_seq ?_
    refine s8.cond 40 rfl (fun h => ?_) (fun h => ?_)
    · -- true
      have hlt1 : i < (ownsL a).length := by simpa using h
      obtain ⟨ce, ece⟩ : ∃ x, (ownsL a)[i]? = some x := ⟨_, List.getElem?_eq_getElem hlt1⟩
      refine wp_skip ?_
      refine wp_seq ?_
      refine wp_block ?_
      refine wp_seq ?_
      refine flowC mixed (s8.keep (sc 2 rfl (sc 4 rfl (sc 5 rfl (sc 37 rfl (sc 38 rfl (sc 39 rfl (sc 40 rfl sn)))))))) (by kernel_rfl) (by kernel_rfl) (cc rfl (p_index ix_75 ece g0 (od rfl id) (od rfl id))
          (cc rfl (p_loadI ld_70 g0 (od rfl id))
          (cc rfl (p_assign g0 (od rfl id)) cn))) fun a9 w9 b9 s9 => ?_
      have z9 := z8.trans (b9.mono z8.size)
      refine wp_seq ?_
      refine flowC mixed (s9.keep (sc 2 rfl (sc 4 rfl (sc 5 rfl (sc 7 rfl (sc 37 rfl (sc 38 rfl (sc 39 rfl (sc 40 rfl (sc 41 rfl (sc 42 rfl sn))))))))))) (by kernel_rfl) (by kernel_rfl) (cc rfl (p_load Try.underlying39 rfl sz_39 g0 (od rfl id))
          (cc rfl (p_move g0 (od rfl id))
          (cc rfl (p_call 51 g0 (ox (od rfl id) (ox (od rfl id) ox0)) (fun _ _ => by kernel_rfl) (f51 (by decide)))
          (cc rfl (p_bin g0 (od rfl id) (oc _) b_neq_3)
          (cc rfl (p_move g0 (od rfl id))
          (cc rfl (p_load Try.underlying39 rfl sz_39 (g1 rfl rfl) (od rfl (fun _ => rfl)))
          (cc rfl (p_move (g1 rfl rfl) (od rfl (fun _ => rfl)))
          (cc rfl (p_call 51 (g1 rfl rfl) (ox (od rfl id) (ox (od rfl id) ox0)) (fun _ _ => by kernel_rfl) (f51 (by decide)))
          (cc rfl (p_bin (g1 rfl rfl) (od rfl id) (oc _) b_neq_3)
          (cc rfl (p_and g0 (od rfl id) (od rfl id)) cn)))))))))) fun a10 w10 b10 s10 => ?_
      have z10 := z9.trans (b10.mono z9.size)
      refine s10.cond 52 rfl (fun h => absurd h (by rw [trust_at (reads_trust h35) ece]; decide)) fun _ => ?_
      refine wp_skip ?_
      refine flowT (s10.keep (sc 2 rfl (sc 4 rfl (sc 5 rfl (sc 7 rfl (sc 37 rfl (sc 38 rfl (sc 39 rfl (sc 40 rfl (sc 41 rfl (sc 42 rfl (sc 43 rfl (sc 44 rfl (sc 45 rfl (sc 46 rfl (sc 47 rfl (sc 48 rfl (sc 49 rfl (sc 50 rfl (sc 51 rfl (sc 52 rfl sn))))))))))))))))))))) (by kernel_rfl) (cc rfl (p_bin g0 (od rfl id) (oc _) (inc_3 (by omega)))
          (cc rfl (p_move g0 (od rfl id)) cn)) fun a11 w11 b11 s11 => ?_
      have z11 := z10.trans (b11.mono z10.size)
      exact ⟨hlt1, s11.to _ ⟨rfl, rfl, rfl, rfl, rfl, rfl, True.intro⟩, z11, True.intro⟩
    · -- false
      obtain rfl : i = (ownsL a).length := by have := of_decide_eq_false h; (try dsimp only at this); omega
      refine wp_exit ?_
      refine wp_seq ?_
      refine flowT (s8.keep (sc 2 rfl (sc 4 rfl (sc 5 rfl (sc 37 rfl (sc 38 rfl (sc 39 rfl sn))))))) (by kernel_rfl) (cc rfl (p_load Try.underlying39 rfl sz_39 g0 (od rfl id))
          (cc rfl (p_load Try.underlying39 rfl sz_39 g0 (od rfl id))
          (cc rfl (p_call 62 g0 (ox (od rfl id) (ox (od rfl id) ox0)) (fun _ _ => by kernel_rfl) (f62 (by decide) (by decide)))
          (cc rfl (p_assign g0 (od rfl id)) cn)))) fun a12 w12 b12 s12 => ?_
      have z12 := z8.trans (b12.mono z8.size)
      exact wp_ret (ret_law (fn := Try.f18) s12 2 rfl rfl (reads_law fa fb fc h35) z12)

set_option maxRecDepth 100000 in
theorem rulesReads_lifted (os : Os) (started : os.Started) (H : Type) (enc : TypeId × Value → H) :
    ReturnsInHanded {} Try.checked os 18 .any (Rows.rulesReadsSpec.pre6 enc Try.prog Try.f18 Rows.rulesReadsRow.domain false) (Rows.rulesReadsSpec.post enc Try.prog Try.f18 false true false false) := by
  refine lifted_of (C := Try.checked) laidOut own started (by kernel_rfl) Try.func18 rfl Try.underlying4 (by kernel_rfl) rfl
    (fun ds hds => by match ds, hds with | [_], _ => rfl)
    (ChangeSpec.witness6 (enc := enc) (C := Try.checked) false ⟨#[], #[.agg #[.int .i64 0, .slice none 0 0, .int .i64 0, .slice none 0 0, .int .i64 0, .slice none 0 0, .int .i64 0, .slice none 0 0]], []⟩ 8 (by kernel_rfl) (by kernel_rfl) (by kernel_rfl) (by kernel_rfl)) ?_
  intro w base args ds ps hval0 hA0 hlt
  have hval : ∀ (j : Nat) t v, Try.f18.params[j]? = some t → args[j]? = some v → Value.okWide Try.prog w .any base t v := hval0
  have hA : DataW.TrodAll enc Try.prog w 0 (fun _ => true) true Try.f18.params.toList args.toList ds ps := hA0
  rw [Try.params18] at hA hval
  obtain ⟨v0, vs0, d0, ds0, p0, q0, hargs, rfl, rfl, h0, r0⟩ := trodAll_cons hA
  obtain ⟨rfl, rfl, rfl⟩ := trodAll_nil r0
  obtain rfl : args = #[v0] := by cases args; simp_all
  obtain ⟨x0, o0, s0⟩ := open_st Try.underlying74 rfl opens_seeds4 (hval 0 74 v0 rfl rfl) h0 (fun x hx => hlt x (List.mem_append_left _ hx))
  exact (by obtain ⟨a, b, c, d, rfl, fa, fb, fc, fd⟩ := arr4 s0; exact rulesReads_walk w v0 a b c d s0 fa fb fc fd)

set_option maxRecDepth 100000 in
theorem rulesReads_facts : joinedFacts Try.pinned.checked.prog 18 Try.f18 Rows.rulesReadsSpec Rows.rulesReadsRow = true := by
  show joinedFacts Try.prog 18 Try.f18 Rows.rulesReadsSpec Rows.rulesReadsRow = true
  unfold joinedFacts
  rw [mayEnter_ok, liftsFinal_ok, make_ok]
  kernel_rfl
theorem rulesReads_holds : Rows.RulesReadsSaid :=
  OpenClaim.holds_of_wide 18 Try.f18 rfl rfl rfl rfl rfl rfl rfl ⟨rfl, rfl, rfl, rfl, rfl⟩ rfl rfl rfl rfl rfl (by kernel_rfl) Try.func18 rulesReads_facts
    (of_decide_eq_true (by kernel_rfl)) (by unfold Func.isWrapper; rw [if_neg (of_decide_eq_false (by kernel_rfl))]; exact ⟨rfl, rfl⟩)
    (fun os started H enc _ => rulesReads_lifted os started H enc)
#print axioms rulesReads_holds

end Go.Proofs.Ytihddficgpjgpaa.X
