/- RulesChains: what flows from one that reads to one that it may change, flows by labels, unless the one owns something on the way. -/
import Derived.Test.YtihddficgpjgpaaXseed
namespace Go.Proofs.Ytihddficgpjgpaa.X
open Go.RowKit Go.ChangeShapes Go.WideShapes Go.ChangeAt

theorem chains_law {a b c : Lab} (fa : Fine a) (fb : Fine b) (fc : Fine c) (h : ((!readB a b || !changeB a c) || decide (0 < ((ownsL a).length : Int))) = false) : leqB b c = true := by
  have A := fa.good
  have g : Good (raiseL a) := good_turn 0 5 A
  simp only [Bool.or_eq_false_iff, Bool.not_eq_false', decide_eq_false_iff_not] at h
  obtain ⟨⟨h1, h2⟩, h3⟩ := h
  unfold changeB at h2
  rw [Bool.and_eq_true] at h2
  have e0 : ownsL a = [] := List.eq_nil_of_length_eq_zero (by omega)
  have hn := (owns_nil A (by have := fa.d1; omega)).1 e0
  have k1 := (leqB_iff fb.good g).1 h1
  have k2 := (leqB_iff A fc.good).1 h2.1
  refine (leqB_iff fb.good fc.good).2 fun x => ?_
  have := k1 x
  rw [show (raiseL a).lv x = turnF 0 5 (a.lv x) from lv_turn 0 5 A x] at this
  unfold turnF at this
  rw [if_neg (hn x)] at this
  exact Int.le_trans this (k2 x)
set_option maxRecDepth 100000 in
theorem rulesChains_walk (w : World) (v0 : Value) (a b c d : Lab) (h0 : (.st (Lay.arr sdL 4) [a, b, c, d] : Sym).on w noF v0) (fa : Fine a) (fb : Fine b) (fc : Fine c) (_fd : Fine d) : Calls Try.prog 12 #[v0] w fun e w' => e = .returned (.bool true) ∧ Below w.heap.size w w' := by
  go_enter Try.func12, Try.ntmps12
  refine wp_seq ?_
  refine flowC mixed (st0 (U := True) (N := 36) (e := [(0, true, .st (Lay.arr sdL 4) [a, b, c, d])]) (F := noF) rfl rfl (fok_none True w) ⟨⟨rfl, h0⟩, True.intro⟩) (by kernel_rfl) (by kernel_rfl) (cc rfl (p_box bx_74 g0 (od rfl id))
      (cc rfl (p_assign g0 (oc _)) cn)) fun a1 w1 b1 s1 => ?_
  have z1 := b1
  refine wp_seq ?_
  refine wp_seq ?_
  refine flowC mixed (s1.keep (sc 1 rfl (sc 2 rfl sn))) (by kernel_rfl) (by kernel_rfl) (cc rfl (p_call 53 g0 ox0 (fun _ _ => by kernel_rfl) f53t)
      (cc rfl (p_not g0 (od rfl id)) cn)) fun a2 w2 b2 s2 => ?_
  have z2 := z1.trans (b2.mono z1.size)
  refine s2.cond 7 rfl (fun h => absurd h (by decide)) fun _ => ?_
  refine wp_skip ?_
  refine wp_seq ?_
  refine flowV 15 mixed (s2.keep (sc 1 rfl (sc 2 rfl sn))) (by kernel_rfl) (cc rfl (p_indexArr ia_74_0 rfl g0 (od rfl id))
      (cc rfl (p_load Try.underlying36 rfl sz_36 g0 (od rfl id))
      (cc rfl (p_call 36 g0 (ox (od rfl id) ox0) (fun _ _ => by kernel_rfl) f36)
      (cc rfl (p_indexArr ia_74_1 rfl g0 (od rfl id))
      (cc rfl (p_load Try.underlying36 rfl sz_36 g0 (od rfl id))
      (cc rfl (p_call 36 g0 (ox (od rfl id) ox0) (fun _ _ => by kernel_rfl) f36)
      (cc rfl (p_indexArr ia_74_2 rfl g0 (od rfl id))
      (cc rfl (p_load Try.underlying36 rfl sz_36 g0 (od rfl id))
      (cc rfl (p_call 36 g0 (ox (od rfl id) ox0) (fun _ _ => by kernel_rfl) f36)
      (ca rfl (m_alloc al_39 nu39)
      (ca rfl (m_alloc al_39 nu39)
      (ca rfl (m_alloc al_39 nu39)
      (cs rfl
      (cs rfl
      (cs rfl cn))))))))))))))) (sv (m := 12) rfl rfl rfl rfl puts_st sz_39 (puts_nou nul) (sv (m := 13) rfl rfl rfl rfl puts_st sz_39 (puts_nou nul) (sv (m := 14) rfl rfl rfl rfl puts_st sz_39 (puts_nou nul) sv0))) (by kernel_rfl) (by kernel_rfl) (by kernel_rfl) fun a3 w3 b3 s3 => ?_
  have z3 := z2.trans (b3.mono z2.size)
  refine wpList_done ?_
  refine wp_seq ?_
  refine wp_seq ?_
  refine flowC mixed (s3.keep (sc 2 rfl (sc 3 rfl (sc 4 rfl (sc 5 rfl sn))))) (by kernel_rfl) (by kernel_rfl) (cc rfl (p_load Try.underlying39 rfl sz_39 g0 (od rfl id))
      (cc rfl (p_load Try.underlying39 rfl sz_39 g0 (od rfl id))
      (cc rfl (p_call 54 g0 (ox (od rfl id) (ox (od rfl id) ox0)) (fun _ _ => by kernel_rfl) (f54 (by decide) (by decide)))
      (cc rfl (p_not g0 (od rfl id))
      (cc rfl (p_move g0 (od rfl id))
      (cc rfl (p_load Try.underlying39 rfl sz_39 (g1 rfl rfl) (od rfl (fun _ => rfl)))
      (cc rfl (p_load Try.underlying39 rfl sz_39 (g1 rfl rfl) (od rfl (fun _ => rfl)))
      (cc rfl (p_call 55 (g1 rfl rfl) (ox (od rfl id) (ox (od rfl id) ox0)) (fun _ _ => by kernel_rfl) (f55 (by decide) (by decide)))
      (cc rfl (p_not (g1 rfl rfl) (od rfl id))
      (cc rfl (p_or g0 (od rfl id) (od rfl id))
      (cc rfl (p_move g0 (od rfl id))
      (cc rfl (p_load Try.underlying39 rfl sz_39 (g1 rfl rfl) (od rfl (fun _ => rfl)))
      (cc rfl (p_call 56 (g1 rfl rfl) (ox (od rfl id) ox0) (fun _ _ => by kernel_rfl) (f56 (by decide)))
      (cc rfl (p_len ln_75 (g1 rfl rfl) (od rfl id))
      (cc rfl (p_bin (g1 rfl rfl) (od rfl id) (oc _) b_gtr_3)
      (cc rfl (p_or g0 (od rfl id) (od rfl id)) cn)))))))))))))))) fun a4 w4 b4 s4 => ?_
  have z4 := z3.trans (b4.mono z3.size)
  refine s4.cond 32 rfl (fun h32 => ?_) (fun h32 => ?_)
  · -- true
    refine wp_seq ?_
    refine flowT (s4.keep (sc 2 rfl (sc 4 rfl (sc 5 rfl sn)))) (by kernel_rfl) (cc rfl (p_assign g0 (oc _)) cn) fun a5 w5 b5 s5 => ?_
    have z5 := z4.trans (b5.mono z4.size)
    exact wp_ret (ret_law (fn := Try.f12) s5 2 rfl rfl rfl z5)
  · -- false
    refine wp_skip ?_
    refine wp_seq ?_
    refine flowT (s4.keep (sc 2 rfl (sc 4 rfl (sc 5 rfl sn)))) (by kernel_rfl) (cc rfl (p_load Try.underlying39 rfl sz_39 g0 (od rfl id))
        (cc rfl (p_load Try.underlying39 rfl sz_39 g0 (od rfl id))
        (cc rfl (p_call 57 g0 (ox (od rfl id) (ox (od rfl id) ox0)) (fun _ _ => by kernel_rfl) (f57 (by decide)))
        (cc rfl (p_assign g0 (od rfl id)) cn)))) fun a6 w6 b6 s6 => ?_
    have z6 := z4.trans (b6.mono z4.size)
    exact wp_ret (ret_law (fn := Try.f12) s6 2 rfl rfl (chains_law fa fb fc h32) z6)

set_option maxRecDepth 100000 in
theorem rulesChains_lifted (os : Os) (started : os.Started) (H : Type) (enc : TypeId × Value → H) :
    ReturnsInHanded {} Try.checked os 12 .any (Rows.rulesChainsSpec.pre6 enc Try.prog Try.f12 Rows.rulesChainsRow.domain false) (Rows.rulesChainsSpec.post enc Try.prog Try.f12 false true false false) := by
  refine lifted_of (C := Try.checked) laidOut own started (by kernel_rfl) Try.func12 rfl Try.underlying4 (by kernel_rfl) rfl
    (fun ds hds => by match ds, hds with | [_], _ => rfl)
    (ChangeSpec.witness6 (enc := enc) (C := Try.checked) false ⟨#[], #[.agg #[.int .i64 0, .slice none 0 0, .int .i64 0, .slice none 0 0, .int .i64 0, .slice none 0 0, .int .i64 0, .slice none 0 0]], []⟩ 8 (by kernel_rfl) (by kernel_rfl) (by kernel_rfl) (by kernel_rfl)) ?_
  intro w base args ds ps hval0 hA0 hlt
  have hval : ∀ (j : Nat) t v, Try.f12.params[j]? = some t → args[j]? = some v → Value.okWide Try.prog w .any base t v := hval0
  have hA : DataW.TrodAll enc Try.prog w 0 (fun _ => true) true Try.f12.params.toList args.toList ds ps := hA0
  rw [Try.params12] at hA hval
  obtain ⟨v0, vs0, d0, ds0, p0, q0, hargs, rfl, rfl, h0, r0⟩ := trodAll_cons hA
  obtain ⟨rfl, rfl, rfl⟩ := trodAll_nil r0
  obtain rfl : args = #[v0] := by cases args; simp_all
  obtain ⟨x0, o0, s0⟩ := open_st Try.underlying74 rfl opens_seeds4 (hval 0 74 v0 rfl rfl) h0 (fun x hx => hlt x (List.mem_append_left _ hx))
  exact (by obtain ⟨a, b, c, d, rfl, fa, fb, fc, fd⟩ := arr4 s0; exact rulesChains_walk w v0 a b c d s0 fa fb fc fd)

set_option maxRecDepth 100000 in
theorem rulesChains_facts : joinedFacts Try.pinned.checked.prog 12 Try.f12 Rows.rulesChainsSpec Rows.rulesChainsRow = true := by
  show joinedFacts Try.prog 12 Try.f12 Rows.rulesChainsSpec Rows.rulesChainsRow = true
  unfold joinedFacts
  rw [mayEnter_ok, liftsFinal_ok, make_ok]
  kernel_rfl
theorem rulesChains_holds : Rows.RulesChainsSaid :=
  OpenClaim.holds_of_wide 12 Try.f12 rfl rfl rfl rfl rfl rfl rfl ⟨rfl, rfl, rfl, rfl, rfl⟩ rfl rfl rfl rfl rfl (by kernel_rfl) Try.func12 rulesChains_facts
    (of_decide_eq_true (by kernel_rfl)) (by unfold Func.isWrapper; rw [if_neg (of_decide_eq_false (by kernel_rfl))]; exact ⟨rfl, rfl⟩)
    (fun os started H enc _ => rulesChains_lifted os started H enc)
#print axioms rulesChains_holds

end Go.Proofs.Ytihddficgpjgpaa.X
