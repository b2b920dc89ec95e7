/- MapsBack: what was added and taken away again leaves what was there. -/
import Derived.Test.YtbeeiecbbmiojaaYback
namespace Go.Proofs.Ytbeeiecbbmiojaa.Y
open Go.RowKit Go.ChangeShapes Go.WideShapes Go.ChangeAt

set_option maxRecDepth 100000 in
theorem mapsBack_walk (w : World) (v0 v1 : Value) (l : List M) (m : M) (hl0 : l.length ≤ maxLen) (h0 : (.one (Lay.sl mapL) l : Sym).on w noF v0) (h1 : (.st mapL m : Sym).on w noF v1) : Calls Try.prog 8 #[v0, v1] w fun e w' => e = .returned (.bool true) ∧ Below w.heap.size w w' := by
  obtain ⟨i0, hi0, hz0, hz1, hz2⟩ := info_parts Try.info69
  go_enter Try.func8, Try.ntmps8
  refine wp_seq ?_
  refine flowC mixed (st0 (U := False) (N := 102) (e := [(0, true, .one (Lay.sl mapL) l), (1, true, .st mapL m)]) (F := noF) rfl rfl (fok_none False w) ⟨⟨rfl, h0⟩, ⟨⟨rfl, h1⟩, True.intro⟩⟩) (by kernel_rfl) (by kernel_rfl) (cc rfl (p_box bx_69 g0 (od rfl id))
      (cc rfl (p_assign g0 (oc _)) cn)) fun a1 w1 b1 s1 => ?_
  have z1 := b1
  refine wp_seq ?_
  refine wp_seq ?_
  refine flowC mixed (s1.keep (sc 0 rfl (sc 3 rfl (sc 4 rfl sn)))) (by kernel_rfl) (by kernel_rfl) (cc rfl (p_call 20 g0 ox0 (fun _ _ => by kernel_rfl) f20)
      (cc rfl (p_not g0 (od rfl id)) cn)) fun a2 w2 b2 s2 => ?_
  have z2 := z1.trans (b2.mono z1.size)
  refine s2.cond 14 rfl (fun h => absurd h (by decide)) fun _ => ?_
  refine wp_skip ?_
  refine wp_seq ?_
  refine wp_seq ?_
  refine flowC mixed (s2.keep (sc 0 rfl (sc 3 rfl (sc 4 rfl sn)))) (by kernel_rfl) (by kernel_rfl) (cc rfl (p_move g0 (od rfl id))
      (cc rfl (p_len ln_41 g0 (od rfl id))
      (cc rfl (p_bin g0 (od rfl id) (oc _) b_gtr_3)
      (cc rfl (p_move g0 (od rfl id))
      (cc rfl (p_move (g1 rfl rfl) (od rfl (fun _ => rfl)))
      (cc rfl (p_call 23 (g1 rfl rfl) (ox (od rfl id) ox0) (fun _ _ => by kernel_rfl) (f23 hl0))
      (cc rfl (p_not (g1 rfl rfl) (od rfl id))
      (cc rfl (p_or g0 (od rfl id) (od rfl id)) cn)))))))) fun a3 w3 b3 s3 => ?_
  have z3 := z2.trans (b3.mono z2.size)
  refine s3.cond 22 rfl (fun h22 => ?_) (fun h22 => ?_)
  · -- true
    refine wp_seq ?_
    refine flowT (s3.keep (sc 0 rfl (sc 3 rfl (sc 4 rfl sn)))) (by kernel_rfl) (cc rfl (p_assign g0 (oc _)) cn) fun a4 w4 b4 s4 => ?_
    have z4 := z3.trans (b4.mono z3.size)
    exact wp_ret (ret_law (fn := Try.f8) s4 4 rfl rfl rfl z4)
  · -- false
    obtain ⟨hl, hr⟩ := back_right h22
    refine wp_skip ?_
    refine wp_seq ?_
    refine flowC mixed (s3.keep (sc 0 rfl (sc 3 rfl (sc 4 rfl sn)))) (by kernel_rfl) (by kernel_rfl) (cc rfl (p_move g0 (od rfl id))
        (cc rfl (p_append0 mapF Try.underlying41 hi0 hz0 hz1 hz2 rfl (by decide) (by decide) (by omega) g0 (od rfl id))
        (cc rfl (p_assign g0 (od rfl id)) cn))) fun a5 w5 b5 s5 => ?_
    have z5 := z3.trans (b5.mono z3.size)
    refine wp_seq ?_
    refine flowC mixed (s5.keep (sc 0 rfl (sc 3 rfl (sc 4 rfl (sc 5 rfl sn))))) (by kernel_rfl) (by kernel_rfl) (cc rfl (p_move g0 (od rfl id))
        (cc rfl (p_load Try.underlying69 rfl sz_69 g0 (od rfl id))
        (cc rfl (p_call 24 g0 (ox (od rfl id) (ox (od rfl id) ox0)) (fun _ _ => by kernel_rfl) (f24 (by omega)))
        (cc rfl (p_move g0 (od rfl id))
        (cc rfl (p_ext0 g0 (od rfl id))
        (cc rfl (p_ext1 g0 (od rfl id))
        (cc rfl (p_assign g0 (od rfl id))
        (cc rfl (p_assign g0 (od rfl id)) cn)))))))) fun a6 w6 b6 s6 => ?_
    have z6 := z5.trans (b6.mono z5.size)
    have ha := add_len l m
    refine wp_seq ?_
    refine wp_seq ?_
    refine flowC mixed (s6.keep (sc 0 rfl (sc 3 rfl (sc 4 rfl (sc 5 rfl (sc 6 rfl (sc 7 rfl sn))))))) (by kernel_rfl) (by kernel_rfl) (cc rfl (p_move g0 (od rfl id))
        (cc rfl (p_bin g0 (od rfl id) (oc _) b_neq_73) cn)) fun a7 w7 b7 s7 => ?_
    have z7 := z6.trans (b7.mono z6.size)
    refine s7.cond 32 rfl (fun h32 => ?_) (fun h32 => ?_)
    · -- true
      refine wp_seq ?_
      refine flowT (s7.keep (sc 0 rfl (sc 3 rfl (sc 4 rfl (sc 5 rfl (sc 6 rfl sn)))))) (by kernel_rfl) (cc rfl (p_move g0 (od rfl id))
          (cc rfl (p_len ln_41 g0 (od rfl id))
          (cc rfl (p_bin g0 (od rfl id) (oc _) b_eql_3)
          (cc rfl (p_assign g0 (od rfl id)) cn)))) fun a8 w8 b8 s8 => ?_
      have z8 := z7.trans (b8.mono z7.size)
      exact wp_ret (ret_law (fn := Try.f8) s8 4 rfl rfl (add_bad h32) z8)
    · -- false
      refine wp_skip ?_
      refine wp_seq ?_
      refine flowC mixed (s7.keep (sc 0 rfl (sc 3 rfl (sc 4 rfl (sc 5 rfl (sc 6 rfl sn)))))) (by kernel_rfl) (by kernel_rfl) (cc rfl (p_move g0 (od rfl id))
          (cc rfl (p_fieldAddr pt69_0 fa_69_0 g0 (od rfl id))
          (cc rfl (p_loadI ld_3 g0 (od rfl id))
          (cc rfl (p_call 25 g0 (ox (od rfl id) (ox (od rfl id) ox0)) (fun _ _ => by kernel_rfl) (f25 (by omega)))
          (cc rfl (p_move g0 (od rfl id))
          (cc rfl (p_ext0 g0 (od rfl id))
          (cc rfl (p_ext1 g0 (od rfl id))
          (cc rfl (p_assign g0 (od rfl id))
          (cc rfl (p_assign g0 (od rfl id)) cn))))))))) fun a9 w9 b9 s9 => ?_
      have z9 := z7.trans (b9.mono z7.size)
      have hb := back_rem hr h32
      have s9 := s9.more 8 (y := .one (Lay.sl mapL) l) (by have q := s9.get 8 rfl; rw [hb] at q; exact q)
      have s9 := s9.more 9 (y := .int .i64 0) (int_as (s9.get 9 rfl) (by rw [hb]))
      refine wp_seq ?_
      refine wp_seq ?_
      refine flowC mixed (s9.keep (sc 0 rfl (sc 3 rfl (sc 4 rfl (sc 5 rfl (sc 6 rfl (sc 8 rfl (sc 9 rfl sn)))))))) (by kernel_rfl) (by kernel_rfl) (cc rfl (p_move g0 (od rfl id))
          (cc rfl (p_bin g0 (od rfl id) (oc _) b_neq_73)
          (cc rfl (p_move g0 (od rfl id))
          (cc rfl (p_move (g1 rfl rfl) (od rfl (fun _ => rfl)))
          (cc rfl (p_len ln_41 (g1 rfl rfl) (od rfl id))
          (cc rfl (p_move (g1 rfl rfl) (od rfl (fun _ => rfl)))
          (cc rfl (p_len ln_41 (g1 rfl rfl) (od rfl id))
          (cc rfl (p_bin (g1 rfl rfl) (od rfl id) (od rfl id) b_neq_3)
          (cc rfl (p_or g0 (od rfl id) (od rfl id))
          (cc rfl (p_move g0 (od rfl id))
          (cc rfl (p_move (g1 rfl rfl) (od rfl (fun _ => rfl)))
          (cc rfl (p_len ln_41 (g1 rfl rfl) (od rfl id))
          (cc rfl (p_move (g1 rfl rfl) (od rfl (fun _ => rfl)))
          (cc rfl (p_len ln_41 (g1 rfl rfl) (od rfl id))
          (cc rfl (p_bin (g1 rfl rfl) (od rfl id) (od rfl id) b_neq_3)
          (cc rfl (p_or g0 (od rfl id) (od rfl id)) cn)))))))))))))))) fun a10 w10 b10 s10 => ?_
      have z10 := z9.trans (b10.mono z9.size)
      refine s10.cond 58 rfl (fun h => absurd h (by simp)) fun _ => ?_
      refine wp_skip ?_
      refine wp_seq ?_
      refine wp_seq ?_
      refine flowC mixed (s10.keep (sc 0 rfl (sc 3 rfl (sc 4 rfl (sc 5 rfl (sc 6 rfl (sc 8 rfl sn))))))) (by kernel_rfl) (by kernel_rfl) (cc rfl (p_move g0 (od rfl id))
          (cc rfl (p_len ln_41 g0 (od rfl id))
          (cc rfl (p_move g0 (oc _)) cn))) fun a11 w11 b11 s11 => ?_
      have z11 := z10.trans (b11.mono z10.size)
      refine wp_block ?_
      refine wp_range l.length 61 (fun i => []) (fun _ _ => True) (s11.keep (sc 61 rfl (sc 0 rfl (sc 3 rfl (sc 4 rfl (sc 5 rfl (sc 6 rfl (sc 8 rfl (sc 60 rfl sn))))))))) z11 True.intro fun i a12 w12 hi1 s12 z12 x12 => ?_
      refine wp_seq ?_
      refine flowC mixed (s12.keep (sc 0 rfl (sc 3 rfl (sc 4 rfl (sc 5 rfl (sc 6 rfl (sc 8 rfl (sc 60 rfl (sc 61 rfl sn))))))))) (by kernel_rfl) (by kernel_rfl) (cc rfl (p_bin g0 (od rfl id) (od rfl id) b_lss_3) cn) fun a13 w13 b13 s13 => ?_
      have z13 := z12.trans (b13.mono z12.size)
      refine wp_seq ?_
      refine s13.cond 62 rfl (fun h => ?_) (fun h => ?_)
      · -- true
        have hlt1 : i < l.length := by simpa using h
        obtain ⟨y, ey⟩ : ∃ x, l[i]? = some x := ⟨_, List.getElem?_eq_getElem hlt1⟩
        refine wp_skip ?_
        refine wp_seq ?_
        refine wp_block ?_
        refine wp_seq ?_
        refine flowC mixed (s13.keep (sc 0 rfl (sc 3 rfl (sc 4 rfl (sc 5 rfl (sc 6 rfl (sc 8 rfl (sc 60 rfl (sc 61 rfl (sc 62 rfl sn)))))))))) (by kernel_rfl) (by kernel_rfl) (cc rfl (p_move g0 (od rfl id))
            (cc rfl (p_assign g0 (od rfl id)) cn)) fun a14 w14 b14 s14 => ?_
        have z14 := z13.trans (b14.mono z13.size)
        refine wp_seq ?_
        refine flowC mixed (s14.keep (sc 0 rfl (sc 3 rfl (sc 4 rfl (sc 5 rfl (sc 6 rfl (sc 8 rfl (sc 10 rfl (sc 60 rfl (sc 61 rfl (sc 62 rfl (sc 63 rfl sn)))))))))))) (by kernel_rfl) (by kernel_rfl) (cc rfl (p_move g0 (od rfl id))
            (cc rfl (p_move g0 (od rfl id))
            (cc rfl (p_index ix_41 ey g0 (od rfl id) (od rfl id))
            (cc rfl (p_load Try.underlying69 rfl sz_69 g0 (od rfl id))
            (cc rfl (p_move g0 (od rfl id))
            (cc rfl (p_move g0 (od rfl id))
            (cc rfl (p_index ix_41 ey g0 (od rfl id) (od rfl id))
            (cc rfl (p_load Try.underlying69 rfl sz_69 g0 (od rfl id))
            (cc rfl (p_eqM g0 (od rfl id) (od rfl id) bm_neq)
            (cc rfl (p_move g0 (od rfl id))
            (cc rfl (p_move (g1 rfl rfl) (od rfl (fun _ => rfl)))
            (cc rfl (p_move (g1 rfl rfl) (od rfl (fun _ => rfl)))
            (cc rfl (p_index ix_41 ey (g1 rfl rfl) (od rfl id) (od rfl id))
            (cc rfl (p_load Try.underlying69 rfl sz_69 (g1 rfl rfl) (od rfl id))
            (cc rfl (p_move (g1 rfl rfl) (od rfl (fun _ => rfl)))
            (cc rfl (p_move (g1 rfl rfl) (od rfl (fun _ => rfl)))
            (cc rfl (p_index ix_41 ey (g1 rfl rfl) (od rfl id) (od rfl id))
            (cc rfl (p_load Try.underlying69 rfl sz_69 (g1 rfl rfl) (od rfl id))
            (cc rfl (p_eqM (g1 rfl rfl) (od rfl id) (od rfl id) bm_neq)
            (cc rfl (p_or g0 (od rfl id) (od rfl id)) cn)))))))))))))))))))) fun a15 w15 b15 s15 => ?_
        have z15 := z14.trans (b15.mono z14.size)
        refine s15.cond 83 rfl (fun h => absurd h (by simp)) fun _ => ?_
        refine wp_skip ?_
        refine flowT (s15.keep (sc 0 rfl (sc 3 rfl (sc 4 rfl (sc 5 rfl (sc 6 rfl (sc 8 rfl (sc 10 rfl (sc 60 rfl (sc 61 rfl (sc 62 rfl (sc 63 rfl (sc 64 rfl (sc 65 rfl (sc 66 rfl (sc 67 rfl (sc 68 rfl (sc 69 rfl (sc 70 rfl (sc 71 rfl (sc 72 rfl (sc 73 rfl (sc 74 rfl (sc 75 rfl (sc 76 rfl (sc 77 rfl (sc 78 rfl (sc 79 rfl (sc 80 rfl (sc 81 rfl (sc 82 rfl (sc 83 rfl sn)))))))))))))))))))))))))))))))) (by kernel_rfl) (cc rfl (p_bin g0 (od rfl id) (oc _) (inc_3 (by omega)))
            (cc rfl (p_move g0 (od rfl id)) cn)) fun a16 w16 b16 s16 => ?_
        have z16 := z15.trans (b16.mono z15.size)
        exact ⟨hlt1, s16.to _ ⟨rfl, rfl, rfl, rfl, rfl, rfl, rfl, rfl, True.intro⟩, z16, True.intro⟩
      · -- false
        obtain rfl : i = l.length := by have := of_decide_eq_false h; (try dsimp only at this); omega
        refine wp_exit ?_
        refine wp_seq ?_
        refine flowV 13 mixed (s13.keep (sc 0 rfl (sc 3 rfl (sc 4 rfl (sc 5 rfl (sc 6 rfl (sc 8 rfl (sc 60 rfl (sc 61 rfl sn))))))))) (by kernel_rfl) (cc rfl (p_move g0 (od rfl id))
            (cc rfl (p_fieldAddr pt69_0 fa_69_0 g0 (od rfl id))
            (cc rfl (p_loadI ld_3 g0 (od rfl id))
            (cc rfl (p_fieldAddr pt69_3 fa_69_3 g0 (od rfl id))
            (cc rfl (p_loadI ld_3 g0 (od rfl id))
            (cc rfl (p_bin g0 (od rfl id) (od rfl id) b_add_3)
            (cc rfl (p_bin g0 (od rfl id) (oc _) b_sub_3)
            (cc rfl (p_call 26 g0 (ox (od rfl id) (ox (od rfl id) ox0)) (fun _ _ => by kernel_rfl) (f26 (by omega)))
            (cc rfl (p_move g0 (od rfl id))
            (cc rfl (p_ext0 g0 (od rfl id))
            (cc rfl (p_ext1 g0 (od rfl id))
            (ca rfl (m_alloc al_69 (fun h => h.elim))
            (cs rfl cn))))))))))))) (sv (m := 12) rfl rfl rfl rfl puts_st sz_69 (puts_nou (fun h => h.elim)) sv0) (by kernel_rfl) (by kernel_rfl) (by kernel_rfl) fun a17 w17 b17 s17 => ?_
        have z17 := z13.trans (b17.mono z13.size)
        refine chainT (t := []) (cc rfl (p_assign g0 (od rfl id)) cn) (by kernel_rfl) s17 fun a18 w18 b18 s18 => wpList_done ?_
        have z18 := z17.trans (b18.mono z17.size)
        refine wp_seq ?_
        refine flowT (s18.keep (sc 0 rfl (sc 3 rfl (sc 4 rfl (sc 5 rfl (sc 6 rfl (sc 8 rfl (sc 11 rfl (sc 12 rfl (sc 60 rfl (sc 61 rfl sn))))))))))) (by kernel_rfl) (cc rfl (p_move g0 (od rfl id))
            (cc rfl (p_move g0 (od rfl id))
            (cc rfl (p_load Try.underlying69 rfl sz_69 (g1 rfl rfl) (od rfl (fun _ => rfl)))
            (cc rfl (p_load Try.underlying69 rfl sz_69 (g1 rfl rfl) (od rfl (fun _ => rfl)))
            (cc rfl (p_eqM (g1 rfl rfl) (od rfl id) (od rfl id) bm_eql)
            (cc rfl (p_and g0 (od rfl id) (od rfl id))
            (cc rfl (p_assign g0 (od rfl id)) cn))))))) fun a19 w19 b19 s19 => ?_
        have z19 := z18.trans (b19.mono z18.size)
        exact wp_ret (ret_law (fn := Try.f8) s19 4 rfl rfl (back_find hr h32) z19)

set_option maxRecDepth 100000 in
theorem mapsBack_lifted (os : Os) (started : os.Started) (H : Type) (enc : TypeId × Value → H) :
    ReturnsInHanded {} Try.checked os 8 .any (Rows.mapsBackSpec.pre6 enc Try.prog Try.f8 Rows.mapsBackRow.domain false) (Rows.mapsBackSpec.post enc Try.prog Try.f8 false true false false) := by
  refine lifted_of (C := Try.checked) laidOut own started (by kernel_rfl) Try.func8 rfl Try.underlying4 (by kernel_rfl) rfl
    (fun ds hds => by match ds, hds with | [_, _], _ => rfl)
    (ChangeSpec.witness6 (enc := enc) (C := Try.checked) false ⟨#[], #[.slice none 0 0, .agg #[.int .i64 0, .int .u64 0, .int .i64 0, .int .i64 0, .bool false]], []⟩ 8 (by kernel_rfl) (by kernel_rfl) (by kernel_rfl) (by kernel_rfl)) ?_
  intro w base args ds ps hval0 hA0 hlt
  have hval : ∀ (j : Nat) t v, Try.f8.params[j]? = some t → args[j]? = some v → Value.okWide Try.prog w .any base t v := hval0
  have hA : DataW.TrodAll enc Try.prog w 0 (fun _ => true) true Try.f8.params.toList args.toList ds ps := hA0
  rw [Try.params8] at hA hval
  obtain ⟨v0, vs0, d0, ds0, p0, q0, hargs, rfl, rfl, h0, r0⟩ := trodAll_cons hA
  obtain ⟨v1, vs1, d1, ds1, p1, q1, rfl, rfl, rfl, h1, r1⟩ := trodAll_cons r0
  obtain ⟨rfl, rfl, rfl⟩ := trodAll_nil r1
  obtain rfl : args = #[v0, v1] := by cases args; simp_all
  obtain ⟨x0, o0, s0⟩ := open_sl Try.underlying41 opens_maps (hval 0 41 v0 rfl rfl) h0 (fun x hx => hlt x (List.mem_append_left _ hx))
  obtain ⟨x1, o1, s1⟩ := open_st Try.underlying69 rfl opens_map (hval 1 69 v1 rfl rfl) h1 (fun x hx => hlt x (List.mem_append_right _ (List.mem_append_left _ hx)))
  exact mapsBack_walk w v0 v1 x0 x1 o0 s0 s1

set_option maxRecDepth 100000 in
theorem mapsBack_facts : joinedFacts Try.pinned.checked.prog 8 Try.f8 Rows.mapsBackSpec Rows.mapsBackRow = true := by
  show joinedFacts Try.prog 8 Try.f8 Rows.mapsBackSpec Rows.mapsBackRow = true
  unfold joinedFacts
  rw [mayEnter_ok, liftsFinal_ok, make_ok]
  kernel_rfl
theorem mapsBack_holds : Rows.MapsBackSaid :=
  OpenClaim.holds_of_wide 8 Try.f8 rfl rfl rfl rfl rfl rfl rfl ⟨rfl, rfl, rfl, rfl, rfl⟩ rfl rfl rfl rfl rfl (by kernel_rfl) Try.func8 mapsBack_facts
    (of_decide_eq_true (by kernel_rfl)) (by unfold Func.isWrapper; rw [if_neg (of_decide_eq_false (by kernel_rfl))]; exact ⟨rfl, rfl⟩)
    (fun os started H enc _ => mapsBack_lifted os started H enc)
#print axioms mapsBack_holds

end Go.Proofs.Ytbeeiecbbmiojaa.Y
