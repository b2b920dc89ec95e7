/- LabelAsks: levels, owned categories, and whether two labels are the same or flow, are told as the document has it. -/
import Derived.Test.YtihddficgpjgpaaXnum
namespace Go.Proofs.Ytihddficgpjgpaa.X
open Go.RowKit Go.ChangeShapes Go.WideShapes Go.ChangeAt

set_option maxRecDepth 100000 in
theorem labelAsks_walk (w : World) (v0 v1 v2 : Value) (a b : Lab) (p q c x : Int) (h0 : (.st sdL a : Sym).on w noF v0) (h1 : (.st sdL b : Sym).on w noF v1) (h2 : (.st (Lay.arr (Lay.int .i64) 2) [p, q] : Sym).on w noF v2) (fa : Fine a) (hc : 0 < c) (hcc : IntKind.u32.wrap (IntKind.i64.wrap (bits .and .i64 p 31 + 1)) = c) (hxx : (IntKind.i64.wrap (q.tmod 5 + 5)).tmod 5 = x) : Calls Try.prog 23 #[v0, v1, v2] w fun e w' => e = .returned (.bool true) ∧ Below w.heap.size w w' := by
  have hol : (ownsL a).length ≤ 1000 := by have := owns_len a; have := fa.len; omega
  go_enter Try.func23, Try.ntmps23
  refine wp_seq ?_
  refine flowC mixed (st0 (U := True) (N := 110) (e := [(0, true, .st sdL a), (1, true, .st sdL b), (2, true, .st (Lay.arr (Lay.int .i64) 2) [p, q])]) (F := noF) rfl rfl (fok_none True w) ⟨⟨rfl, h0⟩, ⟨⟨rfl, h1⟩, ⟨⟨rfl, h2⟩, True.intro⟩⟩⟩) (by kernel_rfl) (by kernel_rfl) (cc rfl (p_box bx_36 g0 (od rfl id))
      (cc rfl (p_box bx_36 g0 (od rfl id))
      (cc rfl (p_box bx_69 g0 (od rfl id))
      (cc rfl (p_assign g0 (oc _)) cn)))) fun a1 w1 b1 s1 => ?_
  have z1 := b1
  refine wp_seq ?_
  refine wp_seq ?_
  refine flowC mixed (s1.keep (sc 3 rfl (sc 4 rfl (sc 5 rfl (sc 6 rfl sn))))) (by kernel_rfl) (by kernel_rfl) (cc rfl (p_call 48 g0 ox0 (fun _ _ => by kernel_rfl) f48)
      (cc rfl (p_not g0 (od rfl id)) cn)) fun a2 w2 b2 s2 => ?_
  have z2 := z1.trans (b2.mono z1.size)
  refine s2.cond 16 rfl (fun h => absurd h (by decide)) fun _ => ?_
  refine wp_skip ?_
  refine wp_seq ?_
  refine flowV 8 mixed (s2.keep (sc 3 rfl (sc 4 rfl (sc 5 rfl (sc 6 rfl sn))))) (by kernel_rfl) (cc rfl (p_load Try.underlying36 rfl sz_36 g0 (od rfl id))
      (cc rfl (p_call 36 g0 (ox (od rfl id) ox0) (fun _ _ => by kernel_rfl) f36)
      (cc rfl (p_load Try.underlying36 rfl sz_36 g0 (od rfl id))
      (cc rfl (p_call 36 g0 (ox (od rfl id) ox0) (fun _ _ => by kernel_rfl) f36)
      (ca rfl (m_alloc al_39 nu39)
      (ca rfl (m_alloc al_39 nu39)
      (cs rfl
      (cs rfl cn)))))))) (sv (m := 6) rfl rfl rfl rfl puts_st sz_39 (puts_nou nul) (sv (m := 7) rfl rfl rfl rfl puts_st sz_39 (puts_nou nul) sv0)) (by kernel_rfl) (by kernel_rfl) (by kernel_rfl) fun a3 w3 b3 s3 => ?_
  have z3 := z2.trans (b3.mono z2.size)
  refine wpList_done ?_
  refine wp_seq ?_
  refine flowC mixed (s3.keep (sc 5 rfl (sc 6 rfl (sc 7 rfl (sc 8 rfl sn))))) (by kernel_rfl) (by kernel_rfl) (cc rfl (p_indexArr ia_69_0 rfl g0 (od rfl id))
      (cc rfl (p_loadI ld_3 g0 (od rfl id))
      (cc rfl (p_bin g0 (od rfl id) (oc _) b_and_3)
      (cc rfl (p_bin g0 (od rfl id) (oc _) b_add_3)
      (cc rfl (p_conv g0 (od rfl id) cv_3_70)
      (cc rfl (p_indexArr ia_69_1 rfl g0 (od rfl id))
      (cc rfl (p_loadI ld_3 g0 (od rfl id))
      (cc rfl (p_bin g0 (od rfl id) (oc _) (b_rem_3 (by decide)))
      (cc rfl (p_bin g0 (od rfl id) (oc _) b_add_3)
      (cc rfl (p_bin g0 (od rfl id) (oc _) (b_rem_3 (by decide)))
      (cc rfl (p_assign g0 (od rfl id))
      (cc rfl (p_assign g0 (od rfl id)) cn)))))))))))) fun a4 w4 b4 s4 => ?_
  have z4 := z3.trans (b4.mono z3.size)
  have s4 := (s4.more 9 (y := .int .u32 c) (int_as (s4.get 9 rfl) hcc)).more 10 (y := .int .i64 x) (int_as ((s4.more 9 (y := .int .u32 c) (int_as (s4.get 9 rfl) hcc)).get 10 rfl) hxx)
  refine wp_seq ?_
  refine flowQ 5 mixed (s4.keep (sc 6 rfl (sc 7 rfl (sc 8 rfl (sc 9 rfl (sc 10 rfl sn)))))) (by kernel_rfl) (by kernel_rfl) (cc rfl (p_load Try.underlying39 rfl sz_39 g0 (od rfl id))
      (cc rfl (p_move g0 (od rfl id))
      (cc rfl (p_move g0 (od rfl id))
      (cc rfl (p_call 50 g0 (ox (od rfl id) (ox (od rfl id) (ox (od rfl id) ox0))) (fun _ _ => by kernel_rfl) (f50 (by decide) hc))
      (ca rfl (m_alloc al_39 nu39) cn))))) (by kernel_rfl) (ss rfl rfl rfl rfl puts_st sz_39 rfl rfl ss0) fun a5 w5 b5 s5 => ?_
  have z5 := z4.trans (b5.mono z4.size)
  refine wp_seq ?_
  refine flowC mixed (s5.keep (sc 6 rfl (sc 7 rfl (sc 8 rfl (sc 9 rfl (sc 10 rfl (sc 11 rfl sn))))))) (by kernel_rfl) (by kernel_rfl) (cc rfl (p_load Try.underlying39 rfl sz_39 g0 (od rfl id))
      (cc rfl (p_call 56 g0 (ox (od rfl id) ox0) (fun _ _ => by kernel_rfl) (f56 (by decide)))
      (cc rfl (p_load Try.underlying39 rfl sz_39 g0 (od rfl id))
      (cc rfl (p_call 80 g0 (ox (od rfl id) ox0) (fun _ _ => by kernel_rfl) (f80 (by decide)))
      (cc rfl (p_assign g0 (od rfl id))
      (cc rfl (p_assign g0 (od rfl id)) cn)))))) fun a6 w6 b6 s6 => ?_
  have z6 := z5.trans (b6.mono z5.size)
  refine wp_seq ?_
  refine wp_seq ?_
  refine flowC mixed (s6.keep (sc 6 rfl (sc 7 rfl (sc 8 rfl (sc 9 rfl (sc 10 rfl (sc 11 rfl (sc 12 rfl (sc 13 rfl sn))))))))) (by kernel_rfl) (by kernel_rfl) (cc rfl (p_move g0 (od rfl id))
      (cc rfl (p_len ln_75 g0 (od rfl id))
      (cc rfl (p_move g0 (od rfl id))
      (cc rfl (p_len ln_75 g0 (od rfl id))
      (cc rfl (p_bin g0 (od rfl id) (od rfl id) b_neq_3) cn))))) fun a7 w7 b7 s7 => ?_
  have z7 := z6.trans (b7.mono z6.size)
  refine s7.cond 43 rfl (fun h => absurd h (by simp)) fun _ => ?_
  refine wp_skip ?_
  refine wp_seq ?_
  refine wp_seq ?_
  refine flowC mixed (s7.keep (sc 6 rfl (sc 7 rfl (sc 8 rfl (sc 9 rfl (sc 10 rfl (sc 11 rfl (sc 12 rfl (sc 13 rfl sn))))))))) (by kernel_rfl) (by kernel_rfl) (cc rfl (p_move g0 (od rfl id))
      (cc rfl (p_len ln_75 g0 (od rfl id))
      (cc rfl (p_move g0 (oc _)) cn))) fun a8 w8 b8 s8 => ?_
  have z8 := z7.trans (b8.mono z7.size)
  refine wp_block ?_
  refine wp_range ((ownsL a).length) 46 (fun i => []) (fun _ _ => True) (s8.keep (sc 46 rfl (sc 6 rfl (sc 7 rfl (sc 8 rfl (sc 9 rfl (sc 10 rfl (sc 11 rfl (sc 12 rfl (sc 13 rfl (sc 45 rfl sn))))))))))) z8 True.intro fun i a9 w9 hi1 s9 z9 x9 => ?_
  refine wp_seq ?_
  refine flowC mixed (s9.keep (sc 6 rfl (sc 7 rfl (sc 8 rfl (sc 9 rfl (sc 10 rfl (sc 11 rfl (sc 12 rfl (sc 13 rfl (sc 45 rfl (sc 46 rfl sn))))))))))) (by kernel_rfl) (by kernel_rfl) (cc rfl (p_bin g0 (od rfl id) (od rfl id) b_lss_3) cn) fun a10 w10 b10 s10 => ?_
  have z10 := z9.trans (b10.mono z9.size)
  refine wp_seq ?_
  refine s10.cond 47 rfl (fun h => ?_) (fun h => ?_)
  · -- true
    have hlt1 : i < (ownsL a).length := by simpa using h
    obtain ⟨ce, ece⟩ : ∃ x, (ownsL a)[i]? = some x := ⟨_, List.getElem?_eq_getElem hlt1⟩
    refine wp_skip ?_
    refine wp_seq ?_
    refine wp_block ?_
    refine wp_seq ?_
    refine flowC mixed (s10.keep (sc 6 rfl (sc 7 rfl (sc 8 rfl (sc 9 rfl (sc 10 rfl (sc 11 rfl (sc 12 rfl (sc 13 rfl (sc 45 rfl (sc 46 rfl (sc 47 rfl sn)))))))))))) (by kernel_rfl) (by kernel_rfl) (cc rfl (p_move g0 (od rfl id))
        (cc rfl (p_assign g0 (od rfl id)) cn)) fun a11 w11 b11 s11 => ?_
    have z11 := z10.trans (b11.mono z10.size)
    refine wp_seq ?_
    refine flowC mixed (s11.keep (sc 6 rfl (sc 7 rfl (sc 8 rfl (sc 9 rfl (sc 10 rfl (sc 11 rfl (sc 12 rfl (sc 13 rfl (sc 14 rfl (sc 45 rfl (sc 46 rfl (sc 47 rfl (sc 48 rfl sn)))))))))))))) (by kernel_rfl) (by kernel_rfl) (cc rfl (p_move g0 (od rfl id))
        (cc rfl (p_move g0 (od rfl id))
        (cc rfl (p_index ix_75 ece g0 (od rfl id) (od rfl id))
        (cc rfl (p_loadI ld_70 g0 (od rfl id))
        (cc rfl (p_move g0 (od rfl id))
        (cc rfl (p_move g0 (od rfl id))
        (cc rfl (p_index ix_75 ece g0 (od rfl id) (od rfl id))
        (cc rfl (p_loadI ld_70 g0 (od rfl id))
        (cc rfl (p_bin g0 (od rfl id) (od rfl id) b_neq_70) cn))))))))) fun a12 w12 b12 s12 => ?_
    have z12 := z11.trans (b12.mono z11.size)
    refine s12.cond 57 rfl (fun h => absurd h (by simp)) fun _ => ?_
    refine wp_skip ?_
    refine flowT (s12.keep (sc 6 rfl (sc 7 rfl (sc 8 rfl (sc 9 rfl (sc 10 rfl (sc 11 rfl (sc 12 rfl (sc 13 rfl (sc 14 rfl (sc 45 rfl (sc 46 rfl (sc 47 rfl (sc 48 rfl (sc 49 rfl (sc 50 rfl (sc 51 rfl (sc 52 rfl (sc 53 rfl (sc 54 rfl (sc 55 rfl (sc 56 rfl (sc 57 rfl sn))))))))))))))))))))))) (by kernel_rfl) (cc rfl (p_bin g0 (od rfl id) (oc _) (inc_3 (by omega)))
        (cc rfl (p_move g0 (od rfl id)) cn)) fun a13 w13 b13 s13 => ?_
    have z13 := z12.trans (b13.mono z12.size)
    exact ⟨hlt1, s13.to _ ⟨rfl, rfl, rfl, rfl, rfl, rfl, rfl, rfl, rfl, rfl, True.intro⟩, z13, True.intro⟩
  · -- false
    obtain rfl : i = (ownsL a).length := by have := of_decide_eq_false h; omega
    refine wp_exit ?_
    refine wp_seq ?_
    refine flowC mixed (s10.keep (sc 7 rfl (sc 8 rfl (sc 9 rfl (sc 10 rfl (sc 11 rfl (sc 12 rfl (sc 13 rfl (sc 45 rfl (sc 46 rfl sn)))))))))) (by kernel_rfl) (by kernel_rfl) (cc rfl (p_load Try.underlying39 rfl sz_39 g0 (od rfl id))
        (cc rfl (p_move g0 (od rfl id))
        (cc rfl (p_call 51 g0 (ox (od rfl id) (ox (od rfl id) ox0)) (fun _ _ => by kernel_rfl) (f51 (by decide)))
        (cc rfl (p_load Try.underlying39 rfl sz_39 g0 (od rfl id))
        (cc rfl (p_move g0 (od rfl id))
        (cc rfl (p_call 81 g0 (ox (od rfl id) (ox (od rfl id) ox0)) (fun _ _ => by kernel_rfl) (f81 (by decide)))
        (cc rfl (p_bin g0 (od rfl id) (od rfl id) b_eql_3)
        (cc rfl (p_move g0 (od rfl id))
        (cc rfl (p_load Try.underlying39 rfl sz_39 (g1 rfl rfl) (od rfl (fun _ => rfl)))
        (cc rfl (p_load Try.underlying39 rfl sz_39 (g1 rfl rfl) (od rfl (fun _ => rfl)))
        (cc rfl (p_move (g1 rfl rfl) (od rfl (fun _ => rfl)))
        (cc rfl (p_move (g1 rfl rfl) (od rfl (fun _ => rfl)))
        (cc rfl (p_call 82 (g1 rfl rfl) (ox (od rfl id) (ox (od rfl id) (ox (od rfl id) ox0))) (fun _ _ => by kernel_rfl) (f82 (by decide) hc))
        (cc rfl (p_call 52 (g1 rfl rfl) (ox (od rfl id) (ox (od rfl id) ox0)) (fun _ _ => by kernel_rfl) (f52 (by decide)))
        (cc rfl (p_and g0 (od rfl id) (od rfl id))
        (cc rfl (p_move g0 (od rfl id))
        (cc rfl (p_load Try.underlying39 rfl sz_39 (g1 rfl rfl) (od rfl (fun _ => rfl)))
        (cc rfl (p_move (g1 rfl rfl) (od rfl (fun _ => rfl)))
        (cc rfl (p_call 51 (g1 rfl rfl) (ox (od rfl id) (ox (od rfl id) ox0)) (fun _ _ => by kernel_rfl) (f51 (by decide)))
        (cc rfl (p_move (g1 rfl rfl) (od rfl (fun _ => rfl)))
        (cc rfl (p_bin (g1 rfl rfl) (od rfl id) (od rfl id) b_eql_3)
        (cc rfl (p_and g0 (od rfl id) (od rfl id))
        (cc rfl (p_move g0 (od rfl id))
        (cc rfl (p_load Try.underlying39 rfl sz_39 (g1 rfl rfl) (od rfl (fun _ => rfl)))
        (cc rfl (p_load Try.underlying39 rfl sz_39 (g1 rfl rfl) (od rfl (fun _ => rfl)))
        (cc rfl (p_call 57 (g1 rfl rfl) (ox (od rfl id) (ox (od rfl id) ox0)) (fun _ _ => by kernel_rfl) (f57 (by decide)))
        (cc rfl (p_load Try.underlying39 rfl sz_39 (g1 rfl rfl) (od rfl (fun _ => rfl)))
        (cc rfl (p_load Try.underlying39 rfl sz_39 (g1 rfl rfl) (od rfl (fun _ => rfl)))
        (cc rfl (p_call 83 (g1 rfl rfl) (ox (od rfl id) (ox (od rfl id) ox0)) (fun _ _ => by kernel_rfl) (f83 (by decide)))
        (cc rfl (p_bin (g1 rfl rfl) (od rfl id) (od rfl id) b_eql_4)
        (cc rfl (p_and g0 (od rfl id) (od rfl id))
        (cc rfl (p_move g0 (od rfl id))
        (cc rfl (p_load Try.underlying39 rfl sz_39 (g1 rfl rfl) (od rfl (fun _ => rfl)))
        (cc rfl (p_load Try.underlying39 rfl sz_39 (g1 rfl rfl) (od rfl (fun _ => rfl)))
        (cc rfl (p_call 52 (g1 rfl rfl) (ox (od rfl id) (ox (od rfl id) ox0)) (fun _ _ => by kernel_rfl) (f52 (by decide)))
        (cc rfl (p_load Try.underlying39 rfl sz_39 (g1 rfl rfl) (od rfl (fun _ => rfl)))
        (cc rfl (p_load Try.underlying39 rfl sz_39 (g1 rfl rfl) (od rfl (fun _ => rfl)))
        (cc rfl (p_call 38 (g1 rfl rfl) (ox (od rfl id) (ox (od rfl id) ox0)) (fun _ _ => by kernel_rfl) (f38 (by decide)))
        (cc rfl (p_bin (g1 rfl rfl) (od rfl id) (od rfl id) b_eql_4)
        (cc rfl (p_and g0 (od rfl id) (od rfl id))
        (cc rfl (p_move g0 (od rfl id))
        (cc rfl (p_load Try.underlying39 rfl sz_39 (g1 rfl rfl) (od rfl (fun _ => rfl)))
        (cc rfl (p_call 74 (g1 rfl rfl) (ox (od rfl id) ox0) (fun _ _ => by kernel_rfl) (f74 (by decide)))
        (cc rfl (p_load Try.underlying39 rfl sz_39 (g1 rfl rfl) (od rfl (fun _ => rfl)))
        (cc rfl (p_call 57 (g1 rfl rfl) (ox (od rfl id) (ox (od rfl id) ox0)) (fun _ _ => by kernel_rfl) (f57 (by decide)))
        (cc rfl (p_load Try.underlying39 rfl sz_39 (g1 rfl rfl) (od rfl (fun _ => rfl)))
        (cc rfl (p_call 76 (g1 rfl rfl) (ox (od rfl id) ox0) (fun _ _ => by kernel_rfl) (f76 (by decide)))
        (cc rfl (p_load Try.underlying39 rfl sz_39 (g1 rfl rfl) (od rfl (fun _ => rfl)))
        (cc rfl (p_call 83 (g1 rfl rfl) (ox (od rfl id) (ox (od rfl id) ox0)) (fun _ _ => by kernel_rfl) (f83 (by decide)))
        (cc rfl (p_bin (g1 rfl rfl) (od rfl id) (od rfl id) b_eql_4)
        (cc rfl (p_and g0 (od rfl id) (od rfl id))
        (cc rfl (p_assign g0 (od rfl id)) cn)))))))))))))))))))))))))))))))))))))))))))))))))))) fun a14 w14 b14 s14 => ?_
    have z14 := z10.trans (b14.mono z10.size)
    exact wp_ret (ret_law (fn := Try.f23) s14 6 rfl rfl (by rw [lv_with fa.good, if_pos rfl]; simp [sameB_refl]) z14)

set_option maxRecDepth 100000 in
theorem labelAsks_lifted (os : Os) (started : os.Started) (H : Type) (enc : TypeId × Value → H) :
    ReturnsInHanded {} Try.checked os 23 .any (Rows.labelAsksSpec.pre6 enc Try.prog Try.f23 Rows.labelAsksRow.domain false) (Rows.labelAsksSpec.post enc Try.prog Try.f23 false true false false) := by
  refine lifted_of (C := Try.checked) laidOut own started (by kernel_rfl) Try.func23 rfl Try.underlying4 (by kernel_rfl) rfl
    (fun ds hds => by match ds, hds with | [_, _, _], _ => rfl)
    (ChangeSpec.witness6 (enc := enc) (C := Try.checked) false ⟨#[], #[.agg #[.int .i64 0, .slice none 0 0], .agg #[.int .i64 0, .slice none 0 0], .agg #[.int .i64 0, .int .i64 0]], []⟩ 8 (by kernel_rfl) (by kernel_rfl) (by kernel_rfl) (by kernel_rfl)) ?_
  intro w base args ds ps hval0 hA0 hlt
  have hval : ∀ (j : Nat) t v, Try.f23.params[j]? = some t → args[j]? = some v → Value.okWide Try.prog w .any base t v := hval0
  have hA : DataW.TrodAll enc Try.prog w 0 (fun _ => true) true Try.f23.params.toList args.toList ds ps := hA0
  rw [Try.params23] at hA hval
  obtain ⟨v0, vs0, d0, ds0, p0, q0, hargs, rfl, rfl, h0, r0⟩ := trodAll_cons hA
  obtain ⟨v1, vs1, d1, ds1, p1, q1, rfl, rfl, rfl, h1, r1⟩ := trodAll_cons r0
  obtain ⟨v2, vs2, d2, ds2, p2, q2, rfl, rfl, rfl, h2, r2⟩ := trodAll_cons r1
  obtain ⟨rfl, rfl, rfl⟩ := trodAll_nil r2
  obtain rfl : args = #[v0, v1, v2] := by cases args; simp_all
  obtain ⟨x0, o0, s0⟩ := open_st Try.underlying36 rfl opens_seed (hval 0 36 v0 rfl rfl) h0 (fun x hx => hlt x (List.mem_append_left _ hx))
  obtain ⟨x1, o1, s1⟩ := open_st Try.underlying36 rfl opens_seed (hval 1 36 v1 rfl rfl) h1 (fun x hx => hlt x (List.mem_append_right _ (List.mem_append_left _ hx)))
  obtain ⟨x2, o2, s2⟩ := open_st Try.underlying69 rfl opens_int2 (hval 2 69 v2 rfl rfl) h2 (fun x hx => hlt x (List.mem_append_right _ (List.mem_append_right _ (List.mem_append_left _ hx))))
  exact (by obtain ⟨p, q, rfl⟩ := two s2; exact labelAsks_walk w v0 v1 v2 x0 x1 p q _ _ s0 s1 s2 (seed_fine s0) (by omega) (cat31 p) (lev5 q))

set_option maxRecDepth 100000 in
theorem labelAsks_facts : joinedFacts Try.pinned.checked.prog 23 Try.f23 Rows.labelAsksSpec Rows.labelAsksRow = true := by
  show joinedFacts Try.prog 23 Try.f23 Rows.labelAsksSpec Rows.labelAsksRow = true
  unfold joinedFacts
  rw [mayEnter_ok, liftsFinal_ok, make_ok]
  kernel_rfl
theorem labelAsks_holds : Rows.LabelAsksSaid :=
  OpenClaim.holds_of_wide 23 Try.f23 rfl rfl rfl rfl rfl rfl rfl ⟨rfl, rfl, rfl, rfl, rfl⟩ rfl rfl rfl rfl rfl (by kernel_rfl) Try.func23 labelAsks_facts
    (of_decide_eq_true (by kernel_rfl)) (by unfold Func.isWrapper; rw [if_neg (of_decide_eq_false (by kernel_rfl))]; exact ⟨rfl, rfl⟩)
    (fun os started H enc _ => labelAsks_lifted os started H enc)
#print axioms labelAsks_holds

end Go.Proofs.Ytihddficgpjgpaa.X
