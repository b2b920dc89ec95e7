/- RulesGates: a gate that owns nothing gives nothing; who enters one that owns a category may own it then, whatever they were. -/
import Derived.Test.YtihddficgpjgpaaXmath
namespace Go.Proofs.Ytihddficgpjgpaa.X
open Go.RowKit Go.ChangeShapes Go.WideShapes Go.ChangeAt

theorem gates_law1 {a b : Lab} {c : Int} (fa : Fine a) (fb : Fine b) (hc : 0 < c) : ((leastL a (withL b c 0)).lv c != 0) = false := by
  rw [lv_least fa.good (good_with fb.good hc 0), lv_with fb.good, if_pos rfl]
  have := fa.lv4 c
  have e : max (turnF 0 5 (a.lv c)) (turnF 0 5 0) = 5 := by unfold turnF; split <;> simp <;> omega
  rw [e]; rfl
theorem gates_law2 {a : Lab} (fa : Fine a) : sameB (leastL a ⟨1, []⟩) a = true := same_ext' (good_least fa.good (good_of 1)) fa.good fun x => by
  rw [lv_least fa.good (good_of 1)]
  have := fa.lv4 x
  have e : (Lab.mk 1 []).lv x = 1 := rfl
  rw [e]
  unfold turnF
  simp only [show ¬ ((1 : Int) = 0) by omega, if_false]
  by_cases h : a.lv x = 0
  · rw [if_pos h, if_pos (by omega)]; omega
  · rw [if_neg h, if_neg (by omega)]; omega
set_option maxRecDepth 100000 in
theorem rulesGates_walk (w : World) (v0 v1 : Value) (a b : Lab) (k c : Int) (h0 : (.st (Lay.arr sdL 2) [a, b] : Sym).on w noF v0) (h1 : (.int .u32 k : Sym).on w noF v1) (fa : Fine a) (fb : Fine b) (hc : 0 < c) (hcc : IntKind.u32.wrap (bits .and .u32 k 63 + 1) = c) : Calls Try.prog 16 #[v0, v1] w fun e w' => e = .returned (.bool true) ∧ Below w.heap.size w w' := by
  go_enter Try.func16, Try.ntmps16
  refine wp_seq ?_
  refine flowC mixed (st0 (U := True) (N := 41) (e := [(0, true, .st (Lay.arr sdL 2) [a, b]), (1, true, .int .u32 k)]) (F := noF) rfl rfl (fok_none True w) ⟨⟨rfl, h0⟩, ⟨⟨rfl, h1⟩, True.intro⟩⟩) (by kernel_rfl) (by kernel_rfl) (cc rfl (p_box bx_80 g0 (od rfl id))
      (cc rfl (p_assign g0 (oc _)) cn)) fun a1 w1 b1 s1 => ?_
  have z1 := b1
  refine wp_seq ?_
  refine wp_seq ?_
  refine flowC mixed (s1.keep (sc 1 rfl (sc 2 rfl (sc 4 rfl sn)))) (by kernel_rfl) (by kernel_rfl) (cc rfl (p_call 53 g0 ox0 (fun _ _ => by kernel_rfl) f53t)
      (cc rfl (p_not g0 (od rfl id)) cn)) fun a2 w2 b2 s2 => ?_
  have z2 := z1.trans (b2.mono z1.size)
  refine s2.cond 9 rfl (fun h => absurd h (by decide)) fun _ => ?_
  refine wp_skip ?_
  refine wp_seq ?_
  refine flowT (s2.keep (sc 1 rfl (sc 2 rfl (sc 4 rfl sn)))) (by kernel_rfl) (cc rfl (p_move g0 (od rfl id))
      (cc rfl (p_bin g0 (od rfl id) (oc _) b_and_70)
      (cc rfl (p_bin g0 (od rfl id) (oc _) b_add_70)
      (cc rfl (p_assign g0 (od rfl id)) cn)))) fun a3 w3 b3 s3 => ?_
  have z3 := z2.trans (b3.mono z2.size)
  have s3 := s3.more 1 (y := .int .u32 c) (int_as (s3.get 1 rfl) hcc)
  refine wp_seq ?_
  refine flowQ 6 mixed (s3.keep (sc 1 rfl (sc 2 rfl (sc 4 rfl sn)))) (by kernel_rfl) (by kernel_rfl) (cc rfl (p_indexArr ia_80_0 rfl g0 (od rfl id))
      (cc rfl (p_load Try.underlying36 rfl sz_36 g0 (od rfl id))
      (cc rfl (p_call 36 g0 (ox (od rfl id) ox0) (fun _ _ => by kernel_rfl) f36)
      (cc rfl (p_call 60 g0 (ox (oc _) ox0) (fun _ _ => by kernel_rfl) f60)
      (cc rfl (p_build2 bd_83 g0 (od rfl id) (od rfl id))
      (ca rfl (m_alloc al_83 nu83) cn)))))) (by kernel_rfl) (ss rfl rfl rfl rfl puts_st sz_83 rfl rfl ss0) fun a4 w4 b4 s4 => ?_
  have z4 := z3.trans (b4.mono z3.size)
  refine wp_seq ?_
  refine flowQ 8 mixed (s4.keep (sc 1 rfl (sc 2 rfl (sc 4 rfl (sc 5 rfl sn))))) (by kernel_rfl) (by kernel_rfl) (cc rfl (p_indexArr ia_80_1 rfl g0 (od rfl id))
      (cc rfl (p_load Try.underlying36 rfl sz_36 g0 (od rfl id))
      (cc rfl (p_call 36 g0 (ox (od rfl id) ox0) (fun _ _ => by kernel_rfl) f36)
      (cc rfl (p_move g0 (od rfl id))
      (cc rfl (p_call 50 g0 (ox (od rfl id) (ox (od rfl id) (ox (oc _) ox0))) (fun _ _ => by kernel_rfl) (f50 (by decide) hc))
      (cc rfl (p_call 60 g0 (ox (oc _) ox0) (fun _ _ => by kernel_rfl) f60)
      (cc rfl (p_build2 bd_83 g0 (od rfl id) (od rfl id))
      (ca rfl (m_alloc al_83 nu83) cn)))))))) (by kernel_rfl) (ss rfl rfl rfl rfl puts_st sz_83 rfl rfl ss0) fun a5 w5 b5 s5 => ?_
  have z5 := z4.trans (b5.mono z4.size)
  refine wp_seq ?_
  refine flowQ 6 mixed (s5.keep (sc 1 rfl (sc 4 rfl (sc 5 rfl (sc 6 rfl sn))))) (by kernel_rfl) (by kernel_rfl) (cc rfl (p_fieldAddr ptw0 fa_83_0 g0 (od rfl id))
      (cc rfl (p_load Try.underlying39 rfl sz_39 g0 (od rfl id))
      (cc rfl (p_fieldAddr ptw0 fa_83_0 g0 (od rfl id))
      (cc rfl (p_load Try.underlying39 rfl sz_39 g0 (od rfl id))
      (cc rfl (p_call 61 g0 (ox (od rfl id) (ox (od rfl id) ox0)) (fun _ _ => by kernel_rfl) (f61 (by decide) (by decide)))
      (ca rfl (m_alloc al_39 nu39) cn)))))) (by kernel_rfl) (ss rfl rfl rfl rfl puts_st sz_39 rfl rfl ss0) fun a6 w6 b6 s6 => ?_
  have z6 := z5.trans (b6.mono z5.size)
  refine wp_seq ?_
  refine wp_seq ?_
  refine flowC mixed (s6.keep (sc 1 rfl (sc 4 rfl (sc 5 rfl (sc 7 rfl sn))))) (by kernel_rfl) (by kernel_rfl) (cc rfl (p_load Try.underlying39 rfl sz_39 g0 (od rfl id))
      (cc rfl (p_move g0 (od rfl id))
      (cc rfl (p_call 51 g0 (ox (od rfl id) (ox (od rfl id) ox0)) (fun _ _ => by kernel_rfl) (f51 (by decide)))
      (cc rfl (p_bin g0 (od rfl id) (oc _) b_neq_3) cn)))) fun a7 w7 b7 s7 => ?_
  have z7 := z6.trans (b7.mono z6.size)
  refine s7.cond 33 rfl (fun h => absurd h (by rw [gates_law1 fa fb hc]; decide)) fun _ => ?_
  refine wp_skip ?_
  refine wp_seq ?_
  refine flowC mixed (s7.keep (sc 5 rfl sn)) (by kernel_rfl) (by kernel_rfl) (cc rfl (p_fieldAddr ptw0 fa_83_0 g0 (od rfl id))
      (cc rfl (p_load Try.underlying39 rfl sz_39 g0 (od rfl id))
      (cc rfl (p_call 60 g0 (ox (oc _) ox0) (fun _ _ => by kernel_rfl) f60)
      (cc rfl (p_call 61 g0 (ox (od rfl id) (ox (od rfl id) ox0)) (fun _ _ => by kernel_rfl) (f61 (by decide) (by decide)))
      (cc rfl (p_fieldAddr ptw0 fa_83_0 g0 (od rfl id))
      (cc rfl (p_load Try.underlying39 rfl sz_39 g0 (od rfl id))
      (cc rfl (p_call 52 g0 (ox (od rfl id) (ox (od rfl id) ox0)) (fun _ _ => by kernel_rfl) (f52 (by decide)))
      (cc rfl (p_assign g0 (od rfl id)) cn)))))))) fun a8 w8 b8 s8 => ?_
  have z8 := z7.trans (b8.mono z7.size)
  exact wp_ret (ret_law (fn := Try.f16) s8 4 rfl rfl (gates_law2 fa) z8)

set_option maxRecDepth 100000 in
theorem rulesGates_lifted (os : Os) (started : os.Started) (H : Type) (enc : TypeId × Value → H) :
    ReturnsInHanded {} Try.checked os 16 .any (Rows.rulesGatesSpec.pre6 enc Try.prog Try.f16 Rows.rulesGatesRow.domain false) (Rows.rulesGatesSpec.post enc Try.prog Try.f16 false true false false) := by
  refine lifted_of (C := Try.checked) laidOut own started (by kernel_rfl) Try.func16 rfl Try.underlying4 (by kernel_rfl) rfl
    (fun ds hds => by match ds, hds with | [_, _], _ => rfl)
    (ChangeSpec.witness6 (enc := enc) (C := Try.checked) false ⟨#[], #[.agg #[.int .i64 0, .slice none 0 0, .int .i64 0, .slice none 0 0], .int .u32 0], []⟩ 8 (by kernel_rfl) (by kernel_rfl) (by kernel_rfl) (by kernel_rfl)) ?_
  intro w base args ds ps hval0 hA0 hlt
  have hval : ∀ (j : Nat) t v, Try.f16.params[j]? = some t → args[j]? = some v → Value.okWide Try.prog w .any base t v := hval0
  have hA : DataW.TrodAll enc Try.prog w 0 (fun _ => true) true Try.f16.params.toList args.toList ds ps := hA0
  rw [Try.params16] at hA hval
  obtain ⟨v0, vs0, d0, ds0, p0, q0, hargs, rfl, rfl, h0, r0⟩ := trodAll_cons hA
  obtain ⟨v1, vs1, d1, ds1, p1, q1, rfl, rfl, rfl, h1, r1⟩ := trodAll_cons r0
  obtain ⟨rfl, rfl, rfl⟩ := trodAll_nil r1
  obtain rfl : args = #[v0, v1] := by cases args; simp_all
  obtain ⟨x0, o0, s0⟩ := open_st Try.underlying80 rfl opens_seeds2 (hval 0 80 v0 rfl rfl) h0 (fun x hx => hlt x (List.mem_append_left _ hx))
  obtain ⟨x1, rfl, rfl, rfl, o1⟩ := open_int Try.underlying70 (hval 1 70 v1 rfl rfl) h1
  exact (by obtain ⟨a, b, rfl, fa, fb⟩ := arr2 s0; have hr := (show 0 ≤ x1 % 64 by omega); exact rulesGates_walk w v0 _ a b x1 _ s0 rfl fa fb (by omega) (cat63 x1))

set_option maxRecDepth 100000 in
theorem rulesGates_facts : joinedFacts Try.pinned.checked.prog 16 Try.f16 Rows.rulesGatesSpec Rows.rulesGatesRow = true := by
  show joinedFacts Try.prog 16 Try.f16 Rows.rulesGatesSpec Rows.rulesGatesRow = true
  unfold joinedFacts
  rw [mayEnter_ok, liftsFinal_ok, make_ok]
  kernel_rfl
theorem rulesGates_holds : Rows.RulesGatesSaid :=
  OpenClaim.holds_of_wide 16 Try.f16 rfl rfl rfl rfl rfl rfl rfl ⟨rfl, rfl, rfl, rfl, rfl⟩ rfl rfl rfl rfl rfl (by kernel_rfl) Try.func16 rulesGates_facts
    (of_decide_eq_true (by kernel_rfl)) (by unfold Func.isWrapper; rw [if_neg (of_decide_eq_false (by kernel_rfl))]; exact ⟨rfl, rfl⟩)
    (fun os started H enc _ => rulesGates_lifted os started H enc)
#print axioms rulesGates_holds

end Go.Proofs.Ytihddficgpjgpaa.X
