/- RulesGive: threads and gates are given, and gates entered, as the document has it. -/
import Derived.Test.YtihddficgpjgpaaXmath
namespace Go.Proofs.Ytihddficgpjgpaa.X
open Go.RowKit Go.ChangeShapes Go.WideShapes Go.ChangeAt

set_option maxRecDepth 100000 in
theorem rulesGive_walk (w : World) (v0 v1 v2 : Value) (a b c d p q r : Lab) (k e : Int) (h0 : (.st (Lay.arr sdL 4) [a, b, c, d] : Sym).on w noF v0) (h1 : (.st (Lay.arr sdL 3) [p, q, r] : Sym).on w noF v1) (h2 : (.int .u32 k : Sym).on w noF v2) (hc : 0 < e) (hcc : IntKind.u32.wrap (bits .and .u32 k 63 + 1) = e) : Calls Try.prog 20 #[v0, v1, v2] w fun e w' => e = .returned (.bool true) ∧ Below w.heap.size w w' := by
  go_enter Try.func20, Try.ntmps20
  refine wp_seq ?_
  refine flowC mixed (st0 (U := True) (N := 125) (e := [(0, true, .st (Lay.arr sdL 4) [a, b, c, d]), (1, true, .st (Lay.arr sdL 3) [p, q, r]), (2, true, .int .u32 k)]) (F := noF) rfl rfl (fok_none True w) ⟨⟨rfl, h0⟩, ⟨⟨rfl, h1⟩, ⟨⟨rfl, h2⟩, True.intro⟩⟩⟩) (by kernel_rfl) (by kernel_rfl) (cc rfl (p_box bx_74 g0 (od rfl id))
      (cc rfl (p_box bx_92 g0 (od rfl id))
      (cc rfl (p_assign g0 (oc _)) cn))) fun a1 w1 b1 s1 => ?_
  have z1 := b1
  refine wp_seq ?_
  refine wp_seq ?_
  refine flowC mixed (s1.keep (sc 2 rfl (sc 3 rfl (sc 4 rfl (sc 6 rfl sn))))) (by kernel_rfl) (by kernel_rfl) (cc rfl (p_call 53 g0 ox0 (fun _ _ => by kernel_rfl) f53t)
      (cc rfl (p_not g0 (od rfl id)) cn)) fun a2 w2 b2 s2 => ?_
  have z2 := z1.trans (b2.mono z1.size)
  refine s2.cond 19 rfl (fun h => absurd h (by decide)) fun _ => ?_
  refine wp_skip ?_
  refine wp_seq ?_
  refine flowV 18 mixed (s2.keep (sc 2 rfl (sc 3 rfl (sc 4 rfl (sc 6 rfl sn))))) (by kernel_rfl) (cc rfl (p_indexArr ia_74_0 rfl g0 (od rfl id))
      (cc rfl (p_load Try.underlying36 rfl sz_36 g0 (od rfl id))
      (cc rfl (p_call 36 g0 (ox (od rfl id) ox0) (fun _ _ => by kernel_rfl) f36)
      (cc rfl (p_indexArr ia_74_1 rfl g0 (od rfl id))
      (cc rfl (p_load Try.underlying36 rfl sz_36 g0 (od rfl id))
      (cc rfl (p_call 36 g0 (ox (od rfl id) ox0) (fun _ _ => by kernel_rfl) f36)
      (cc rfl (p_build2 bd_83 g0 (od rfl id) (od rfl id))
      (cc rfl (p_indexArr ia_74_0 rfl g0 (od rfl id))
      (cc rfl (p_load Try.underlying36 rfl sz_36 g0 (od rfl id))
      (cc rfl (p_call 36 g0 (ox (od rfl id) ox0) (fun _ _ => by kernel_rfl) f36)
      (cc rfl (p_indexArr ia_74_1 rfl g0 (od rfl id))
      (cc rfl (p_load Try.underlying36 rfl sz_36 g0 (od rfl id))
      (cc rfl (p_call 36 g0 (ox (od rfl id) ox0) (fun _ _ => by kernel_rfl) f36)
      (cc rfl (p_build2 bd_93 g0 (od rfl id) (od rfl id))
      (ca rfl (m_alloc al_83 nu83)
      (ca rfl (m_alloc al_93 nu83)
      (cs rfl
      (cs rfl cn)))))))))))))))))) (sv (m := 16) rfl rfl rfl rfl puts_st sz_83 (puts_nou nuw) (sv (m := 17) rfl rfl rfl rfl puts_st sz_93 (puts_nou nuw) sv0)) (by kernel_rfl) (by kernel_rfl) (by kernel_rfl) fun a3 w3 b3 s3 => ?_
  have z3 := z2.trans (b3.mono z2.size)
  refine wpList_done ?_
  refine wp_seq ?_
  refine flowV 18 mixed (s3.keep (sc 2 rfl (sc 3 rfl (sc 4 rfl (sc 6 rfl (sc 7 rfl (sc 8 rfl sn))))))) (by kernel_rfl) (cc rfl (p_indexArr ia_74_2 rfl g0 (od rfl id))
      (cc rfl (p_load Try.underlying36 rfl sz_36 g0 (od rfl id))
      (cc rfl (p_call 36 g0 (ox (od rfl id) ox0) (fun _ _ => by kernel_rfl) f36)
      (cc rfl (p_indexArr ia_74_3 rfl g0 (od rfl id))
      (cc rfl (p_load Try.underlying36 rfl sz_36 g0 (od rfl id))
      (cc rfl (p_call 36 g0 (ox (od rfl id) ox0) (fun _ _ => by kernel_rfl) f36)
      (cc rfl (p_build2 bd_83 g0 (od rfl id) (od rfl id))
      (cc rfl (p_indexArr ia_74_2 rfl g0 (od rfl id))
      (cc rfl (p_load Try.underlying36 rfl sz_36 g0 (od rfl id))
      (cc rfl (p_call 36 g0 (ox (od rfl id) ox0) (fun _ _ => by kernel_rfl) f36)
      (cc rfl (p_indexArr ia_74_3 rfl g0 (od rfl id))
      (cc rfl (p_load Try.underlying36 rfl sz_36 g0 (od rfl id))
      (cc rfl (p_call 36 g0 (ox (od rfl id) ox0) (fun _ _ => by kernel_rfl) f36)
      (cc rfl (p_build2 bd_93 g0 (od rfl id) (od rfl id))
      (ca rfl (m_alloc al_83 nu83)
      (ca rfl (m_alloc al_93 nu83)
      (cs rfl
      (cs rfl cn)))))))))))))))))) (sv (m := 16) rfl rfl rfl rfl puts_st sz_83 (puts_nou nuw) (sv (m := 17) rfl rfl rfl rfl puts_st sz_93 (puts_nou nuw) sv0)) (by kernel_rfl) (by kernel_rfl) (by kernel_rfl) fun a4 w4 b4 s4 => ?_
  have z4 := z3.trans (b4.mono z3.size)
  refine wpList_done ?_
  refine wp_seq ?_
  refine flowV 18 mixed (s4.keep (sc 2 rfl (sc 4 rfl (sc 6 rfl (sc 7 rfl (sc 8 rfl (sc 9 rfl (sc 10 rfl sn)))))))) (by kernel_rfl) (cc rfl (p_indexArr ia_92_0 rfl g0 (od rfl id))
      (cc rfl (p_load Try.underlying36 rfl sz_36 g0 (od rfl id))
      (cc rfl (p_call 36 g0 (ox (od rfl id) ox0) (fun _ _ => by kernel_rfl) f36)
      (cc rfl (p_indexArr ia_92_1 rfl g0 (od rfl id))
      (cc rfl (p_load Try.underlying36 rfl sz_36 g0 (od rfl id))
      (cc rfl (p_call 36 g0 (ox (od rfl id) ox0) (fun _ _ => by kernel_rfl) f36)
      (cc rfl (p_build2 bd_83 g0 (od rfl id) (od rfl id))
      (cc rfl (p_indexArr ia_92_0 rfl g0 (od rfl id))
      (cc rfl (p_load Try.underlying36 rfl sz_36 g0 (od rfl id))
      (cc rfl (p_call 36 g0 (ox (od rfl id) ox0) (fun _ _ => by kernel_rfl) f36)
      (cc rfl (p_indexArr ia_92_1 rfl g0 (od rfl id))
      (cc rfl (p_load Try.underlying36 rfl sz_36 g0 (od rfl id))
      (cc rfl (p_call 36 g0 (ox (od rfl id) ox0) (fun _ _ => by kernel_rfl) f36)
      (cc rfl (p_build2 bd_93 g0 (od rfl id) (od rfl id))
      (ca rfl (m_alloc al_83 nu83)
      (ca rfl (m_alloc al_93 nu83)
      (cs rfl
      (cs rfl cn)))))))))))))))))) (sv (m := 16) rfl rfl rfl rfl puts_st sz_83 (puts_nou nuw) (sv (m := 17) rfl rfl rfl rfl puts_st sz_93 (puts_nou nuw) sv0)) (by kernel_rfl) (by kernel_rfl) (by kernel_rfl) fun a5 w5 b5 s5 => ?_
  have z5 := z4.trans (b5.mono z4.size)
  refine wpList_done ?_
  refine wp_seq ?_
  refine flowQ 4 mixed (s5.keep (sc 2 rfl (sc 4 rfl (sc 6 rfl (sc 7 rfl (sc 8 rfl (sc 9 rfl (sc 10 rfl (sc 11 rfl (sc 12 rfl sn)))))))))) (by kernel_rfl) (by kernel_rfl) (cc rfl (p_indexArr ia_92_2 rfl g0 (od rfl id))
      (cc rfl (p_load Try.underlying36 rfl sz_36 g0 (od rfl id))
      (cc rfl (p_call 36 g0 (ox (od rfl id) ox0) (fun _ _ => by kernel_rfl) f36)
      (ca rfl (m_alloc al_39 nu39) cn)))) (by kernel_rfl) (ss rfl rfl rfl rfl puts_st sz_39 rfl rfl ss0) fun a6 w6 b6 s6 => ?_
  have z6 := z5.trans (b6.mono z5.size)
  refine wp_seq ?_
  refine flowT (s6.keep (sc 2 rfl (sc 6 rfl (sc 7 rfl (sc 8 rfl (sc 9 rfl (sc 10 rfl (sc 11 rfl (sc 12 rfl (sc 13 rfl sn)))))))))) (by kernel_rfl) (cc rfl (p_move g0 (od rfl id))
      (cc rfl (p_bin g0 (od rfl id) (oc _) b_and_70)
      (cc rfl (p_bin g0 (od rfl id) (oc _) b_add_70)
      (cc rfl (p_assign g0 (od rfl id)) cn)))) fun a7 w7 b7 s7 => ?_
  have z7 := z6.trans (b7.mono z6.size)
  have s7 := s7.more 2 (y := .int .u32 e) (int_as (s7.get 2 rfl) hcc)
  refine wp_seq ?_
  refine flowV 8 mixed (s7.keep (sc 2 rfl (sc 6 rfl (sc 7 rfl (sc 8 rfl (sc 9 rfl (sc 10 rfl (sc 11 rfl (sc 12 rfl (sc 13 rfl sn)))))))))) (by kernel_rfl) (cc rfl (p_load Try.underlying83 rfl sz_83 g0 (od rfl id))
      (cc rfl (p_move g0 (od rfl id))
      (cc rfl (p_call 68 g0 (ox (od rfl id) (ox (od rfl id) ox0)) (fun _ _ => by kernel_rfl) (f68 (by decide) (by decide) hc))
      (cc rfl (p_move g0 (od rfl id))
      (cc rfl (p_ext0 g0 (od rfl id))
      (cc rfl (p_ext1 g0 (od rfl id))
      (ca rfl (m_alloc al_83 nu83)
      (cs rfl cn)))))))) (sv (m := 7) rfl rfl rfl rfl puts_st sz_83 (puts_nou nuw) sv0) (by kernel_rfl) (by kernel_rfl) (by kernel_rfl) fun a8 w8 b8 s8 => ?_
  have z8 := z7.trans (b8.mono z7.size)
  refine chainT (t := []) (cc rfl (p_assign g0 (od rfl id)) cn) (by kernel_rfl) s8 fun a9 w9 b9 s9 => wpList_done ?_
  have z9 := z8.trans (b9.mono z8.size)
  refine wp_seq ?_
  refine flowV 8 mixed (s9.keep (sc 2 rfl (sc 6 rfl (sc 7 rfl (sc 8 rfl (sc 9 rfl (sc 10 rfl (sc 11 rfl (sc 12 rfl (sc 13 rfl (sc 14 rfl (sc 15 rfl sn)))))))))))) (by kernel_rfl) (cc rfl (p_load Try.underlying93 rfl sz_93 g0 (od rfl id))
      (cc rfl (p_move g0 (od rfl id))
      (cc rfl (p_call 69 g0 (ox (od rfl id) (ox (od rfl id) ox0)) (fun _ _ => by kernel_rfl) (f69 (by decide) (by decide) hc))
      (cc rfl (p_move g0 (od rfl id))
      (cc rfl (p_ext0 g0 (od rfl id))
      (cc rfl (p_ext1 g0 (od rfl id))
      (ca rfl (m_alloc al_93 nu83)
      (cs rfl cn)))))))) (sv (m := 7) rfl rfl rfl rfl puts_st sz_93 (puts_nou nuw) sv0) (by kernel_rfl) (by kernel_rfl) (by kernel_rfl) fun a10 w10 b10 s10 => ?_
  have z10 := z9.trans (b10.mono z9.size)
  refine chainT (t := []) (cc rfl (p_assign g0 (od rfl id)) cn) (by kernel_rfl) s10 fun a11 w11 b11 s11 => wpList_done ?_
  have z11 := z10.trans (b11.mono z10.size)
  refine wp_seq ?_
  refine flowC mixed (s11.keep (sc 7 rfl (sc 8 rfl (sc 9 rfl (sc 10 rfl (sc 11 rfl (sc 12 rfl (sc 13 rfl (sc 14 rfl (sc 15 rfl (sc 16 rfl (sc 17 rfl sn)))))))))))) (by kernel_rfl) (by kernel_rfl) (cc rfl (p_load Try.underlying83 rfl sz_83 g0 (od rfl id))
      (cc rfl (p_load Try.underlying39 rfl sz_39 g0 (od rfl id))
      (cc rfl (p_load Try.underlying83 rfl sz_83 g0 (od rfl id))
      (cc rfl (p_call 66 g0 (ox (od rfl id) (ox (od rfl id) (ox (od rfl id) ox0))) (fun _ _ => by kernel_rfl) (f66 (by decide) (by decide) (by decide) (by decide) (by decide)))
      (cc rfl (p_load Try.underlying93 rfl sz_93 g0 (od rfl id))
      (cc rfl (p_load Try.underlying39 rfl sz_39 g0 (od rfl id))
      (cc rfl (p_load Try.underlying93 rfl sz_93 g0 (od rfl id))
      (cc rfl (p_call 70 g0 (ox (od rfl id) (ox (od rfl id) (ox (od rfl id) ox0))) (fun _ _ => by kernel_rfl) (f70 (by decide) (by decide) (by decide) (by decide) (by decide)))
      (cc rfl (p_bin g0 (od rfl id) (od rfl id) b_eql_4)
      (cc rfl (p_move g0 (od rfl id))
      (cc rfl (p_load Try.underlying83 rfl sz_83 (g1 rfl rfl) (od rfl (fun _ => rfl)))
      (cc rfl (p_load Try.underlying39 rfl sz_39 (g1 rfl rfl) (od rfl (fun _ => rfl)))
      (cc rfl (p_load Try.underlying83 rfl sz_83 (g1 rfl rfl) (od rfl (fun _ => rfl)))
      (cc rfl (p_load Try.underlying83 rfl sz_83 (g1 rfl rfl) (od rfl (fun _ => rfl)))
      (cc rfl (p_call 67 (g1 rfl rfl) (ox (od rfl id) (ox (od rfl id) (ox (od rfl id) (ox (od rfl id) ox0)))) (fun _ _ => by kernel_rfl) (f67 (by decide) (by decide) (by decide) (by decide) (by decide) (by decide) (by decide)))
      (cc rfl (p_load Try.underlying93 rfl sz_93 (g1 rfl rfl) (od rfl (fun _ => rfl)))
      (cc rfl (p_load Try.underlying39 rfl sz_39 (g1 rfl rfl) (od rfl (fun _ => rfl)))
      (cc rfl (p_load Try.underlying93 rfl sz_93 (g1 rfl rfl) (od rfl (fun _ => rfl)))
      (cc rfl (p_load Try.underlying93 rfl sz_93 (g1 rfl rfl) (od rfl (fun _ => rfl)))
      (cc rfl (p_call 71 (g1 rfl rfl) (ox (od rfl id) (ox (od rfl id) (ox (od rfl id) (ox (od rfl id) ox0)))) (fun _ _ => by kernel_rfl) (f71 (by decide) (by decide) (by decide) (by decide) (by decide) (by decide) (by decide)))
      (cc rfl (p_bin (g1 rfl rfl) (od rfl id) (od rfl id) b_eql_4)
      (cc rfl (p_and g0 (od rfl id) (od rfl id))
      (cc rfl (p_move g0 (od rfl id))
      (cc rfl (p_fieldAddr ptw0 fa_83_0 (g1 rfl rfl) (od rfl (fun _ => rfl)))
      (cc rfl (p_load Try.underlying39 rfl sz_39 (g1 rfl rfl) (od rfl id))
      (cc rfl (p_fieldAddr ptw0 fa_83_0 (g1 rfl rfl) (od rfl (fun _ => rfl)))
      (cc rfl (p_load Try.underlying39 rfl sz_39 (g1 rfl rfl) (od rfl id))
      (cc rfl (p_call 61 (g1 rfl rfl) (ox (od rfl id) (ox (od rfl id) ox0)) (fun _ _ => by kernel_rfl) (f61 (by decide) (by decide)))
      (cc rfl (p_fieldAddr ptw0 fa_93_0 (g1 rfl rfl) (od rfl (fun _ => rfl)))
      (cc rfl (p_load Try.underlying39 rfl sz_39 (g1 rfl rfl) (od rfl id))
      (cc rfl (p_fieldAddr ptw0 fa_93_0 (g1 rfl rfl) (od rfl (fun _ => rfl)))
      (cc rfl (p_load Try.underlying39 rfl sz_39 (g1 rfl rfl) (od rfl id))
      (cc rfl (p_call 72 (g1 rfl rfl) (ox (od rfl id) (ox (od rfl id) ox0)) (fun _ _ => by kernel_rfl) (f72 (by decide) (by decide)))
      (cc rfl (p_call 38 (g1 rfl rfl) (ox (od rfl id) (ox (od rfl id) ox0)) (fun _ _ => by kernel_rfl) (f38 (by decide)))
      (cc rfl (p_and g0 (od rfl id) (od rfl id))
      (cc rfl (p_move g0 (od rfl id))
      (cc rfl (p_move (g1 rfl rfl) (od rfl (fun _ => rfl)))
      (cc rfl (p_move (g1 rfl rfl) (od rfl (fun _ => rfl)))
      (cc rfl (p_bin (g1 rfl rfl) (od rfl id) (od rfl id) b_eql_4)
      (cc rfl (p_and g0 (od rfl id) (od rfl id))
      (cc rfl (p_move g0 (od rfl id))
      (cc rfl (p_load Try.underlying83 rfl sz_83 (g1 rfl rfl) (od rfl (fun _ => rfl)))
      (cc rfl (p_load Try.underlying93 rfl sz_93 (g1 rfl rfl) (od rfl (fun _ => rfl)))
      (cc rfl (p_call 73 (g1 rfl rfl) (ox (od rfl id) (ox (od rfl id) ox0)) (fun _ _ => by kernel_rfl) (f73 (by decide) (by decide)))
      (cc rfl (p_and g0 (od rfl id) (od rfl id))
      (cc rfl (p_assign g0 (od rfl id)) cn)))))))))))))))))))))))))))))))))))))))))))))) fun a12 w12 b12 s12 => ?_
  have z12 := z11.trans (b12.mono z11.size)
  exact wp_ret (ret_law (fn := Try.f20) s12 6 rfl rfl (by rw [rgive_eq']; simp [sameW, sameB_refl]) z12)

set_option maxRecDepth 100000 in
theorem rulesGive_lifted (os : Os) (started : os.Started) (H : Type) (enc : TypeId × Value → H) :
    ReturnsInHanded {} Try.checked os 20 .any (Rows.rulesGiveSpec.pre6 enc Try.prog Try.f20 Rows.rulesGiveRow.domain false) (Rows.rulesGiveSpec.post enc Try.prog Try.f20 false true false false) := by
  refine lifted_of (C := Try.checked) laidOut own started (by kernel_rfl) Try.func20 rfl Try.underlying4 (by kernel_rfl) rfl
    (fun ds hds => by match ds, hds with | [_, _, _], _ => rfl)
    (ChangeSpec.witness6 (enc := enc) (C := Try.checked) false ⟨#[], #[.agg #[.int .i64 0, .slice none 0 0, .int .i64 0, .slice none 0 0, .int .i64 0, .slice none 0 0, .int .i64 0, .slice none 0 0], .agg #[.int .i64 0, .slice none 0 0, .int .i64 0, .slice none 0 0, .int .i64 0, .slice none 0 0], .int .u32 0], []⟩ 8 (by kernel_rfl) (by kernel_rfl) (by kernel_rfl) (by kernel_rfl)) ?_
  intro w base args ds ps hval0 hA0 hlt
  have hval : ∀ (j : Nat) t v, Try.f20.params[j]? = some t → args[j]? = some v → Value.okWide Try.prog w .any base t v := hval0
  have hA : DataW.TrodAll enc Try.prog w 0 (fun _ => true) true Try.f20.params.toList args.toList ds ps := hA0
  rw [Try.params20] at hA hval
  obtain ⟨v0, vs0, d0, ds0, p0, q0, hargs, rfl, rfl, h0, r0⟩ := trodAll_cons hA
  obtain ⟨v1, vs1, d1, ds1, p1, q1, rfl, rfl, rfl, h1, r1⟩ := trodAll_cons r0
  obtain ⟨v2, vs2, d2, ds2, p2, q2, rfl, rfl, rfl, h2, r2⟩ := trodAll_cons r1
  obtain ⟨rfl, rfl, rfl⟩ := trodAll_nil r2
  obtain rfl : args = #[v0, v1, v2] := by cases args; simp_all
  obtain ⟨x0, o0, s0⟩ := open_st Try.underlying74 rfl opens_seeds4 (hval 0 74 v0 rfl rfl) h0 (fun x hx => hlt x (List.mem_append_left _ hx))
  obtain ⟨x1, o1, s1⟩ := open_st Try.underlying92 rfl opens_seeds3 (hval 1 92 v1 rfl rfl) h1 (fun x hx => hlt x (List.mem_append_right _ (List.mem_append_left _ hx)))
  obtain ⟨x2, rfl, rfl, rfl, o2⟩ := open_int Try.underlying70 (hval 2 70 v2 rfl rfl) h2
  exact (by obtain ⟨a, b, c, d, rfl, _⟩ := arr4 s0; obtain ⟨p, q, r, rfl, _⟩ := arr3 s1; have hr := (show 0 ≤ x2 % 64 by omega); exact rulesGive_walk w v0 v1 _ a b c d p q r x2 _ s0 s1 rfl (by omega) (cat63 x2))

set_option maxRecDepth 100000 in
theorem rulesGive_facts : joinedFacts Try.pinned.checked.prog 20 Try.f20 Rows.rulesGiveSpec Rows.rulesGiveRow = true := by
  show joinedFacts Try.prog 20 Try.f20 Rows.rulesGiveSpec Rows.rulesGiveRow = true
  unfold joinedFacts
  rw [mayEnter_ok, liftsFinal_ok, make_ok]
  kernel_rfl
theorem rulesGive_holds : Rows.RulesGiveSaid :=
  OpenClaim.holds_of_wide 20 Try.f20 rfl rfl rfl rfl rfl rfl rfl ⟨rfl, rfl, rfl, rfl, rfl⟩ rfl rfl rfl rfl rfl (by kernel_rfl) Try.func20 rulesGive_facts
    (of_decide_eq_true (by kernel_rfl)) (by unfold Func.isWrapper; rw [if_neg (of_decide_eq_false (by kernel_rfl))]; exact ⟨rfl, rfl⟩)
    (fun os started H enc _ => rulesGive_lifted os started H enc)
#print axioms rulesGive_holds

end Go.Proofs.Ytihddficgpjgpaa.X
