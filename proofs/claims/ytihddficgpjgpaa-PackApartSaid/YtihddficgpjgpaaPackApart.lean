/- PackApart: unlike labels have unlike bytes, none of which begins the other's. -/
import Derived.Test.YtihddficgpjgpaaYmath5
namespace Go.Proofs.Ytihddficgpjgpaa.Y
open Go.RowKit Go.ChangeShapes Go.WideShapes Go.ChangeAt

theorem sd_fine1 {l : Lab} {w : World} {F : Cell → Prop} {v : Value} (h : (Sym.st sdL l).on w F v) : Fine l := (seed_in h).fine
set_option maxRecDepth 100000 in
theorem packApart_walk (w : World) (v0 v1 : Value) (a b : Lab) (h0 : (.st sdL a : Sym).on w noF v0) (h1 : (.st sdL b : Sym).on w noF v1) (fa : Fine a) (fb : Fine b) : Calls Try.prog 4 #[v0, v1] w fun e w' => e = .returned (.bool true) ∧ Below w.heap.size w w' := by
  go_enter Try.func4, Try.ntmps4
  refine wp_seq ?_
  refine flowC mixed (st0 (U := True) (N := 49) (e := [(0, true, .st sdL a), (1, true, .st sdL b)]) (F := noF) rfl rfl (fok_none True w) ⟨⟨rfl, h0⟩, ⟨⟨rfl, h1⟩, True.intro⟩⟩) (by kernel_rfl) (by kernel_rfl) (cc rfl (p_box bx_36 g0 (od rfl id))
      (cc rfl (p_box bx_36 g0 (od rfl id))
      (cc rfl (p_assign g0 (oc _)) cn))) fun a1 w1 b1 s1 => ?_
  have z1 := b1
  refine wp_seq ?_
  refine wp_seq ?_
  refine flowC mixed (s1.keep (sc 2 rfl (sc 3 rfl (sc 4 rfl sn)))) (by kernel_rfl) (by kernel_rfl) (cc rfl (p_call 28 g0 ox0 (fun _ _ => by kernel_rfl) (fn_any f28))
      (cc rfl (p_not g0 (od rfl id)) cn)) fun a2 w2 b2 s2 => ?_
  have z2 := z1.trans (b2.mono z1.size)
  refine s2.cond 11 rfl (fun h => absurd h (by decide)) fun _ => ?_
  refine wp_skip ?_
  refine wp_seq ?_
  refine flowV 8 mixed (s2.keep (sc 2 rfl (sc 3 rfl (sc 4 rfl sn)))) (by kernel_rfl) (cc rfl (p_load Try.underlying36 rfl sz_36 g0 (od rfl id))
      (cc rfl (p_call 36 g0 (ox (od rfl id) ox0) (fun _ _ => by kernel_rfl) f36)
      (cc rfl (p_load Try.underlying36 rfl sz_36 g0 (od rfl id))
      (cc rfl (p_call 36 g0 (ox (od rfl id) ox0) (fun _ _ => by kernel_rfl) f36)
      (ca rfl (m_alloc al_39 nu39)
      (ca rfl (m_alloc al_39 nu39)
      (cs rfl
      (cs rfl cn)))))))) (sv (m := 6) rfl rfl rfl rfl puts_st sz_39 (puts_nou nul) (sv (m := 7) rfl rfl rfl rfl puts_st sz_39 (puts_nou nul) sv0)) (by kernel_rfl) (by kernel_rfl) (by kernel_rfl) fun a3 w3 b3 s3 => ?_
  have z3 := z2.trans (b3.mono z2.size)
  refine wpList_done ?_
  refine wp_seq ?_
  refine flowC mixed (s3.keep (sc 4 rfl (sc 5 rfl (sc 6 rfl sn)))) (by kernel_rfl) (by kernel_rfl) (cc rfl (p_load Try.underlying39 rfl sz_39 g0 (od rfl id))
      (cc rfl (p_call 37 g0 (ox oc_nil (ox (od rfl id) ox0)) (fun _ _ => by kernel_rfl) (f37l (by decide)))
      (cc rfl (p_load Try.underlying39 rfl sz_39 g0 (od rfl id))
      (cc rfl (p_call 37 g0 (ox oc_nil (ox (od rfl id) ox0)) (fun _ _ => by kernel_rfl) (f37l (by decide)))
      (cc rfl (p_assign g0 (od rfl id))
      (cc rfl (p_assign g0 (od rfl id)) cn)))))) fun a4 w4 b4 s4 => ?_
  have z4 := z3.trans (b4.mono z3.size)
  refine wp_seq ?_
  refine wp_seq ?_
  refine flowC mixed (s4.keep (sc 4 rfl (sc 5 rfl (sc 6 rfl (sc 7 rfl (sc 8 rfl sn)))))) (by kernel_rfl) (by kernel_rfl) (cc rfl (p_load Try.underlying39 rfl sz_39 g0 (od rfl id))
      (cc rfl (p_load Try.underlying39 rfl sz_39 g0 (od rfl id))
      (cc rfl (p_call 38 g0 (ox (od rfl id) (ox (od rfl id) ox0)) (fun _ _ => by kernel_rfl) (f38 (by decide))) cn))) fun a5 w5 b5 s5 => ?_
  have z5 := z4.trans (b5.mono z4.size)
  refine s5.cond 22 rfl (fun h22 => ?_) (fun h22 => ?_)
  · -- true
    refine wp_seq ?_
    refine flowT (s5.keep (sc 4 rfl (sc 5 rfl (sc 7 rfl (sc 8 rfl sn))))) (by kernel_rfl) (cc rfl (p_move g0 (od rfl id))
        (cc rfl (p_move g0 (od rfl id))
        (cc rfl (p_call 30 g0 (ox (od rfl id) (ox (od rfl id) ox0)) (fun _ _ => by kernel_rfl) (f30 (byt_lab _) (byt_lab _)))
        (cc rfl (p_assign g0 (od rfl id)) cn)))) fun a6 w6 b6 s6 => ?_
    have z6 := z5.trans (b6.mono z5.size)
    exact wp_ret (ret_law (fn := Try.f4) s6 4 rfl rfl (by rw [(sameB_iff a b).1 h22]; simp) z6)
  · -- false
    refine wp_skip ?_
    refine wp_seq ?_
    refine flowC mixed (s5.keep (sc 4 rfl (sc 5 rfl (sc 7 rfl (sc 8 rfl sn))))) (by kernel_rfl) (by kernel_rfl) (cc rfl (p_move g0 (od rfl id))
        (cc rfl (p_len ln_22 g0 (od rfl id))
        (cc rfl (p_move g0 (od rfl id))
        (cc rfl (p_len ln_22 g0 (od rfl id))
        (cc rfl (p_min g0 (od rfl id) (od rfl id) mn_3)
        (cc rfl (p_assign g0 (od rfl id)) cn)))))) fun a7 w7 b7 s7 => ?_
    have z7 := z5.trans (b7.mono z5.size)
    have s7 := s7.more 9 (y := .int .i64 ((min (labB a).length (labB b).length : Nat) : Int)) (int_as (s7.get 9 rfl) (by omega))
    refine wp_seq ?_
    refine flowC mixed (s7.keep (sc 5 rfl (sc 7 rfl (sc 8 rfl (sc 9 rfl sn))))) (by kernel_rfl) (by kernel_rfl) (cc rfl (p_move g0 (od rfl id))
        (cc rfl (p_move g0 (od rfl id))
        (cc rfl (p_slHi (k := min (labB a).length (labB b).length) (by omega) g0 (od rfl id) (od rfl id))
        (cc rfl (p_move g0 (od rfl id))
        (cc rfl (p_move g0 (od rfl id))
        (cc rfl (p_slHi (k := min (labB a).length (labB b).length) (by omega) g0 (od rfl id) (od rfl id))
        (cc rfl (p_call 30 g0 (ox (od rfl id) (ox (od rfl id) ox0)) (fun _ _ => by kernel_rfl) (f30 (byt_take (byt_lab _) _) (byt_take (byt_lab _) _)))
        (cc rfl (p_not g0 (od rfl id))
        (cc rfl (p_move g0 (od rfl id))
        (cc rfl (p_move (g1 rfl rfl) (od rfl (fun _ => rfl)))
        (cc rfl (p_len ln_22 (g1 rfl rfl) (od rfl id))
        (cc rfl (p_fieldAddr pt39_1 fa_39_1 (g1 rfl rfl) (od rfl (fun _ => rfl)))
        (cc rfl (p_load1 rfl ld_37 (g1 rfl rfl) (od rfl id))
        (cc rfl (p_len ln_37 (g1 rfl rfl) (od rfl id))
        (cc rfl (p_bin (g1 rfl rfl) (oc _) (od rfl id) b_mul_3)
        (cc rfl (p_bin (g1 rfl rfl) (oc _) (od rfl id) b_add_3)
        (cc rfl (p_bin (g1 rfl rfl) (od rfl id) (od rfl id) b_eql_3)
        (cc rfl (p_and g0 (od rfl id) (od rfl id))
        (cc rfl (p_assign g0 (od rfl id)) cn))))))))))))))))))) fun a8 w8 b8 s8 => ?_
    have z8 := z7.trans (b8.mono z7.size)
    exact wp_ret (ret_law (fn := Try.f4) s8 4 rfl rfl (apart_law fa fb h22) z8)

set_option maxRecDepth 100000 in
theorem packApart_lifted (os : Os) (started : os.Started) (H : Type) (enc : TypeId × Value → H) :
    ReturnsInHanded {} Try.checked os 4 .any (Rows.packApartSpec.pre6 enc Try.prog Try.f4 Rows.packApartRow.domain false) (Rows.packApartSpec.post enc Try.prog Try.f4 false true false false) := by
  refine lifted_of (C := Try.checked) laidOut own started (by kernel_rfl) Try.func4 rfl Try.underlying4 (by kernel_rfl) rfl
    (fun ds hds => by match ds, hds with | [_, _], _ => rfl)
    (ChangeSpec.witness6 (enc := enc) (C := Try.checked) false ⟨#[], #[.agg #[.int .i64 0, .slice none 0 0], .agg #[.int .i64 0, .slice none 0 0]], []⟩ 8 (by kernel_rfl) (by kernel_rfl) (by kernel_rfl) (by kernel_rfl)) ?_
  intro w base args ds ps hval0 hA0 hlt
  have hval : ∀ (j : Nat) t v, Try.f4.params[j]? = some t → args[j]? = some v → Value.okWide Try.prog w .any base t v := hval0
  have hA : DataW.TrodAll enc Try.prog w 0 (fun _ => true) true Try.f4.params.toList args.toList ds ps := hA0
  rw [Try.params4] at hA hval
  obtain ⟨v0, vs0, d0, ds0, p0, q0, hargs, rfl, rfl, h0, r0⟩ := trodAll_cons hA
  obtain ⟨v1, vs1, d1, ds1, p1, q1, rfl, rfl, rfl, h1, r1⟩ := trodAll_cons r0
  obtain ⟨rfl, rfl, rfl⟩ := trodAll_nil r1
  obtain rfl : args = #[v0, v1] := by cases args; simp_all
  obtain ⟨x0, o0, s0⟩ := open_st Try.underlying36 rfl opens_seed (hval 0 36 v0 rfl rfl) h0 (fun x hx => hlt x (List.mem_append_left _ hx))
  obtain ⟨x1, o1, s1⟩ := open_st Try.underlying36 rfl opens_seed (hval 1 36 v1 rfl rfl) h1 (fun x hx => hlt x (List.mem_append_right _ (List.mem_append_left _ hx)))
  exact packApart_walk w v0 v1 x0 x1 s0 s1 (sd_fine1 s0) (sd_fine1 s1)

set_option maxRecDepth 100000 in
theorem packApart_facts : joinedFacts Try.pinned.checked.prog 4 Try.f4 Rows.packApartSpec Rows.packApartRow = true := by
  show joinedFacts Try.prog 4 Try.f4 Rows.packApartSpec Rows.packApartRow = true
  unfold joinedFacts
  rw [mayEnter_ok, liftsFinal_ok, make_ok]
  kernel_rfl
theorem packApart_holds : Rows.PackApartSaid :=
  OpenClaim.holds_of_wide 4 Try.f4 rfl rfl rfl rfl rfl rfl rfl ⟨rfl, rfl, rfl, rfl, rfl⟩ rfl rfl rfl rfl rfl (by kernel_rfl) Try.func4 packApart_facts
    (of_decide_eq_true (by kernel_rfl)) (by unfold Func.isWrapper; rw [if_neg (of_decide_eq_false (by kernel_rfl))]; exact ⟨rfl, rfl⟩)
    (fun os started H enc _ => packApart_lifted os started H enc)
#print axioms packApart_holds

end Go.Proofs.Ytihddficgpjgpaa.Y
