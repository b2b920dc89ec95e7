/- MapsSegs: the segments that maps name are told once each, rising; what isn't there isn't taken away. -/
import Derived.Test.YtbeeiecbbmiojaaYsegs
import Derived.Test.YtbeeiecbbmiojaaHead
namespace Go.Proofs.Ytbeeiecbbmiojaa.Y
open Go.RowKit Go.ChangeShapes Go.WideShapes Go.ChangeAt

set_option maxRecDepth 100000 in
theorem mapsSegs_walk (w : World) (v0 v1 : Value) (l : List M) (q : Int) (hl0 : l.length ≤ maxLen) (h0 : (.one (Lay.sl mapL) l : Sym).on w noF v0) (h1 : (.int .i64 q : Sym).on w noF v1) : Calls Try.prog 9 #[v0, v1] w fun e w' => e = .returned (.bool true) ∧ Below w.heap.size w w' := by
  go_enter Try.func9, Try.ntmps9
  refine wp_seq ?_
  refine flowC mixed (st0 (U := False) (N := 108) (e := [(0, true, .one (Lay.sl mapL) l), (1, true, .int .i64 q)]) (F := noF) rfl rfl (fok_none False w) ⟨⟨rfl, h0⟩, ⟨⟨rfl, h1⟩, True.intro⟩⟩) (by kernel_rfl) (by kernel_rfl) (cc rfl (p_assign g0 (oc _)) cn) fun a1 w1 b1 s1 => ?_
  have z1 := b1
  refine wp_seq ?_
  refine wp_seq ?_
  refine flowC mixed (s1.keep (sc 0 rfl (sc 1 rfl (sc 4 rfl sn)))) (by kernel_rfl) (by kernel_rfl) (cc rfl (p_call 20 g0 ox0 (fun _ _ => by kernel_rfl) f20)
      (cc rfl (p_not g0 (od rfl id)) cn)) fun a2 w2 b2 s2 => ?_
  have z2 := z1.trans (b2.mono z1.size)
  refine s2.cond 15 rfl (fun h => absurd h (by decide)) fun _ => ?_
  refine wp_skip ?_
  refine wp_seq ?_
  refine wp_seq ?_
  refine flowC mixed (s2.keep (sc 0 rfl (sc 1 rfl (sc 4 rfl sn)))) (by kernel_rfl) (by kernel_rfl) (cc rfl (p_move g0 (od rfl id))
      (cc rfl (p_len ln_41 g0 (od rfl id))
      (cc rfl (p_bin g0 (od rfl id) (oc _) b_gtr_3)
      (cc rfl (p_move g0 (od rfl id))
      (cc rfl (p_move (g1 rfl rfl) (od rfl (fun _ => rfl)))
      (cc rfl (p_call 23 (g1 rfl rfl) (ox (od rfl id) ox0) (fun _ _ => by kernel_rfl) (f23 hl0))
      (cc rfl (p_not (g1 rfl rfl) (od rfl id))
      (cc rfl (p_or g0 (od rfl id) (od rfl id)) cn)))))))) fun a3 w3 b3 s3 => ?_
  have z3 := z2.trans (b3.mono z2.size)
  refine s3.cond 23 rfl (fun h23 => ?_) (fun h23 => ?_)
  · -- true
    refine wp_seq ?_
    refine flowT (s3.keep (sc 0 rfl (sc 1 rfl (sc 4 rfl sn)))) (by kernel_rfl) (cc rfl (p_assign g0 (oc _)) cn) fun a4 w4 b4 s4 => ?_
    have z4 := z3.trans (b4.mono z3.size)
    exact wp_ret (ret_law (fn := Try.f9) s4 4 rfl rfl rfl z4)
  · -- false
    obtain ⟨hl, hr⟩ := back_right h23
    refine wp_skip ?_
    refine wp_seq ?_
    refine flowC mixed (s3.keep (sc 0 rfl (sc 1 rfl (sc 4 rfl sn)))) (by kernel_rfl) (by kernel_rfl) (cc rfl (p_move g0 (od rfl id))
        (cc rfl (p_call 27 g0 (ox (od rfl id) ox0) (fun _ _ => by kernel_rfl) (f27 (by omega)))
        (cc rfl (p_assign g0 (od rfl id)) cn))) fun a5 w5 b5 s5 => ?_
    have z5 := z3.trans (b5.mono z3.size)
    refine wp_seq ?_
    refine wp_region_lit ?_
    refine make_step .u64 (s5.keep (sc 0 rfl (sc 1 rfl (sc 4 rfl (sc 5 rfl sn))))) rfl rfl (by decide) rfl fun gm w6 mp hgm0 b6 s6 => ?_
    have hgm := Nat.le_trans z5.size hgm0
    have z6 := z5.trans (b6.mono z5.size)
    refine chainT (t := []) (cc rfl (p_assign g0 (od rfl id)) cn) (by kernel_rfl) s6 fun a7 w7 b7 s7 => wpList_done ?_
    have z7 := z6.trans (b7.mono z6.size)
    have mp := mp.below b7
    refine wp_seq ?_
    refine flowC mixed (s7.keep (sc 0 rfl (sc 1 rfl (sc 4 rfl (sc 5 rfl (sc 6 rfl sn)))))) (by kernel_rfl) (by kernel_rfl) (cc rfl (p_assign g0 (oc _)) cn) fun a8 w8 b8 s8 => ?_
    have z8 := z7.trans (b8.mono z7.size)
    have mp := mp.below b8
    refine wp_seq ?_
    refine wp_seq ?_
    refine flowC mixed (s8.keep (sc 0 rfl (sc 1 rfl (sc 4 rfl (sc 5 rfl (sc 6 rfl (sc 7 rfl sn))))))) (by kernel_rfl) (by kernel_rfl) (cc rfl (p_move g0 (od rfl id))
        (cc rfl (p_len ln_41 g0 (od rfl id))
        (cc rfl (p_move g0 (oc _)) cn))) fun a9 w9 b9 s9 => ?_
    have z9 := z8.trans (b9.mono z8.size)
    have mp := mp.below b9
    have s9 := s9.more 7 (y := .bool (thereTo l q 0)) (s9.get 7 rfl)
    refine wp_block ?_
    refine wp_range l.length 29 (fun i => [(7, true, .bool (thereTo l q i))]) (fun i w => MapAt w gm .u64 (seenTo l i)) (s9.keep (sc 29 rfl (sc 7 rfl (sc 0 rfl (sc 1 rfl (sc 4 rfl (sc 5 rfl (sc 6 rfl (sc 27 rfl (sc 28 rfl sn)))))))))) z9 (mp) fun i a10 w10 hi1 s10 z10 x10 => ?_
    have mp := x10
    refine wp_seq ?_
    refine flowC mixed (s10.keep (sc 0 rfl (sc 1 rfl (sc 4 rfl (sc 5 rfl (sc 6 rfl (sc 7 rfl (sc 27 rfl (sc 28 rfl (sc 29 rfl sn)))))))))) (by kernel_rfl) (by kernel_rfl) (cc rfl (p_bin g0 (od rfl id) (od rfl id) b_lss_3) cn) fun a11 w11 b11 s11 => ?_
    have z11 := z10.trans (b11.mono z10.size)
    have mp := mp.below b11
    refine wp_seq ?_
    refine s11.cond 30 rfl (fun h => ?_) (fun h => ?_)
    · -- true
      have hlt1 : i < l.length := by simpa using h
      have em := at_getD hlt1
      refine wp_skip ?_
      refine wp_seq ?_
      refine wp_block ?_
      refine wp_seq ?_
      refine flowQ 3 mixed (s11.keep (sc 0 rfl (sc 1 rfl (sc 4 rfl (sc 5 rfl (sc 6 rfl (sc 7 rfl (sc 27 rfl (sc 28 rfl (sc 29 rfl (sc 30 rfl sn))))))))))) (by kernel_rfl) (by kernel_rfl) (cc rfl (p_index ix_41 em g0 (od rfl id) (od rfl id))
          (cc rfl (p_load Try.underlying69 rfl sz_69 g0 (od rfl id))
          (ca rfl (m_alloc al_69 (fun h => h.elim)) cn))) (by kernel_rfl) (ss rfl rfl rfl rfl puts_st sz_69 rfl rfl ss0) fun a12 w12 b12 s12 => ?_
      have z12 := z11.trans (b12.mono z11.size)
      have mp := mp.below b12
      refine wp_seq ?_
      refine wp_region_lit ?_
      refine chainK 3 (cc rfl (p_move g0 (od rfl id))
          (cc rfl (p_fieldAddr pt69_1 fa_69_1 g0 (od rfl id))
          (cc rfl (p_loadI ld_28 g0 (od rfl id)) cn))) (by kernel_rfl) (s12.keep (sc 0 rfl (sc 1 rfl (sc 4 rfl (sc 5 rfl (sc 6 rfl (sc 7 rfl (sc 9 rfl (sc 27 rfl (sc 28 rfl (sc 29 rfl (sc 30 rfl (sc 31 rfl (sc 32 rfl sn)))))))))))))) fun a13 w13 b13 s13 => ?_
      have z13 := z12.trans (b13.mono z12.size)
      have mp := mp.below b13
      show wpList _ _ _ (_ :: _) _ _
      refine update_step (x1 := .tmp 33) (x2 := .tmp 35) s13 mp (fun _ => .inr rfl) rfl rfl rfl (s13.get 33 rfl) (s13.get 35 rfl) rfl Try.underlying82 Try.underlying28 fun w14 mp g14 s14 => wpList_done ?_
      have z14 := z13.grown g14 z13.size fun k e => by cases e; exact hgm
      refine flowT (s14.keep (sc 0 rfl (sc 1 rfl (sc 4 rfl (sc 5 rfl (sc 6 rfl (sc 7 rfl (sc 9 rfl (sc 27 rfl (sc 28 rfl (sc 29 rfl (sc 30 rfl (sc 31 rfl (sc 32 rfl (sc 33 rfl (sc 34 rfl (sc 35 rfl sn))))))))))))))))) (by kernel_rfl) (cc rfl (p_move g0 (od rfl id))
          (cc rfl (p_move g0 (od rfl id))
          (cc rfl (p_fieldAddr pt69_0 fa_69_0 (g1 rfl rfl) (od rfl (fun _ => rfl)))
          (cc rfl (p_loadI ld_3 (g1 rfl rfl) (od rfl id))
          (cc rfl (p_move (g1 rfl rfl) (od rfl (fun _ => rfl)))
          (cc rfl (p_bin (g1 rfl rfl) (od rfl id) (od rfl id) b_eql_3)
          (cc rfl (p_or g0 (od rfl id) (od rfl id))
          (cc rfl (p_assign g0 (od rfl id)) cn)))))))) fun a15 w15 b15 s15 => ?_
      have z15 := z14.trans (b15.mono z14.size)
      have mp := mp.below b15
      have s15 := s15.more 7 (y := .bool (thereTo l q (i + 1))) (bool_as (s15.get 7 rfl) (there_step em))
      refine flowT (s15.keep (sc 0 rfl (sc 1 rfl (sc 4 rfl (sc 5 rfl (sc 6 rfl (sc 7 rfl (sc 9 rfl (sc 27 rfl (sc 28 rfl (sc 29 rfl (sc 30 rfl (sc 31 rfl (sc 32 rfl (sc 33 rfl (sc 34 rfl (sc 35 rfl (sc 36 rfl (sc 37 rfl (sc 38 rfl (sc 39 rfl (sc 40 rfl (sc 41 rfl (sc 42 rfl sn)))))))))))))))))))))))) (by kernel_rfl) (cc rfl (p_bin g0 (od rfl id) (oc _) (inc_3 (by omega)))
          (cc rfl (p_move g0 (od rfl id)) cn)) fun a16 w16 b16 s16 => ?_
      have z16 := z15.trans (b16.mono z15.size)
      have mp := mp.below b16
      exact ⟨hlt1, s16.to _ ⟨rfl, rfl, rfl, rfl, rfl, rfl, rfl, rfl, rfl, True.intro⟩, z16, mp⟩
    · -- false
      obtain rfl : i = l.length := by have := of_decide_eq_false h; (try dsimp only at this); omega
      have s11 := s11.less (F' := noF) (fun _ h => h.elim)
      have s11 := s11.more 6 (y := .map .u64 (seenTo l l.length)) ⟨gm, s11.get 6 rfl, mp, fun _ h => h⟩
      have hsl := segs_len l l.length
      refine wp_exit ?_
      refine wp_seq ?_
      refine wp_seq ?_
      refine flowC mixed (s11.keep (sc 0 rfl (sc 1 rfl (sc 4 rfl (sc 5 rfl (sc 6 rfl (sc 7 rfl (sc 27 rfl (sc 28 rfl (sc 29 rfl sn)))))))))) (by kernel_rfl) (by kernel_rfl) (cc rfl (p_move g0 (od rfl id))
          (cc rfl (p_len ln_29 g0 (od rfl id))
          (cc rfl (p_move g0 (oc _)) cn))) fun a17 w17 b17 s17 => ?_
      have z17 := z11.trans (b17.mono z11.size)
      refine wp_block ?_
      refine wp_range ((segsTo l l.length).length) 46 (fun i => []) (fun _ _ => True) (s17.keep (sc 46 rfl (sc 0 rfl (sc 1 rfl (sc 4 rfl (sc 5 rfl (sc 6 rfl (sc 7 rfl (sc 27 rfl (sc 28 rfl (sc 29 rfl (sc 44 rfl (sc 45 rfl sn))))))))))))) z17 True.intro fun i a18 w18 hi2 s18 z18 x18 => ?_
      refine wp_seq ?_
      refine flowC mixed (s18.keep (sc 0 rfl (sc 1 rfl (sc 4 rfl (sc 5 rfl (sc 6 rfl (sc 7 rfl (sc 27 rfl (sc 28 rfl (sc 29 rfl (sc 44 rfl (sc 45 rfl (sc 46 rfl sn))))))))))))) (by kernel_rfl) (by kernel_rfl) (cc rfl (p_bin g0 (od rfl id) (od rfl id) b_lss_3) cn) fun a19 w19 b19 s19 => ?_
      have z19 := z18.trans (b19.mono z18.size)
      refine wp_seq ?_
      refine s19.cond 47 rfl (fun h => ?_) (fun h => ?_)
      · -- true
        have hlt2 : i < (segsTo l l.length).length := by simpa using h
        have es := getU hlt2
        have hk := (seen_keys l ((segsTo l l.length).getD i 0) l.length).2 ((segs_mem l _ l.length).1 (List.mem_of_getElem? es))
        have hq := seg_quiet (segs_sorted l l.length) es
        refine wp_skip ?_
        refine wp_seq ?_
        refine wp_block ?_
        refine wp_seq ?_
        refine flowC mixed (s19.keep (sc 0 rfl (sc 1 rfl (sc 4 rfl (sc 5 rfl (sc 6 rfl (sc 7 rfl (sc 27 rfl (sc 28 rfl (sc 29 rfl (sc 44 rfl (sc 45 rfl (sc 46 rfl (sc 47 rfl sn)))))))))))))) (by kernel_rfl) (by kernel_rfl) (cc rfl (p_move g0 (od rfl id))
            (cc rfl (p_index ix_29 es g0 (od rfl id) (od rfl id))
            (cc rfl (p_loadI ld_28 g0 (od rfl id))
            (cc rfl (p_assign g0 (od rfl id))
            (cc rfl (p_assign g0 (od rfl id)) cn))))) fun a20 w20 b20 s20 => ?_
        have z20 := z19.trans (b20.mono z19.size)
        refine wp_seq ?_
        refine flowC mixed (s20.keep (sc 0 rfl (sc 1 rfl (sc 4 rfl (sc 5 rfl (sc 6 rfl (sc 7 rfl (sc 10 rfl (sc 11 rfl (sc 27 rfl (sc 28 rfl (sc 29 rfl (sc 44 rfl (sc 45 rfl (sc 46 rfl (sc 47 rfl (sc 48 rfl (sc 49 rfl (sc 50 rfl sn))))))))))))))))))) (by kernel_rfl) (by kernel_rfl) (cc rfl (p_move g0 (od rfl id))
            (cc rfl (p_move g0 (od rfl id))
            (cc rfl (p_lookupE (seen_look hk) Try.underlying82 Try.underlying28 zero4 g0 (od rfl id) (od rfl id))
            (cc rfl (p_not g0 (od rfl id))
            (cc rfl (p_move g0 (od rfl id))
            (cc rfl (p_move (g1 rfl rfl) (od rfl (fun _ => rfl)))
            (cc rfl (p_bin (g1 rfl rfl) (od rfl id) (oc _) b_gtr_3)
            (cc rfl (p_move (g1 rfl rfl) (od rfl id))
            (cc rfl (p_move (g1 rfl rfl) (od rfl (fun _ => rfl)))
            (cc rfl (p_move (g1 rfl rfl) (od rfl (fun _ => rfl)))
            (cc rfl (p_bin (g1 rfl rfl) (od rfl id) (oc _) b_sub_3)
            (cc rfl (p_indexI (z := (segsTo l l.length).getD (i - 1) 0) ix_29 (fun hc => prevS (by omega) hlt2 (gd hc)) (g1 rfl rfl) (od rfl id) (od rfl id))
            (cc rfl (p_loadI ld_28 (g1 rfl rfl) (od rfl id))
            (cc rfl (p_move (g1 rfl rfl) (od rfl (fun _ => rfl)))
            (cc rfl (p_bin (g1 rfl rfl) (od rfl id) (od rfl id) b_geq_28)
            (cc rfl (p_and (g1 rfl rfl) (od rfl id) (od rfl id))
            (cc rfl (p_or g0 (od rfl id) (od rfl id)) cn))))))))))))))))) fun a21 w21 b21 s21 => ?_
        have z21 := z20.trans (b21.mono z20.size)
        refine s21.cond 67 rfl (fun h => absurd h (by rw [hq]; simp)) fun _ => ?_
        refine wp_skip ?_
        refine flowT (s21.keep (sc 0 rfl (sc 1 rfl (sc 4 rfl (sc 5 rfl (sc 6 rfl (sc 7 rfl (sc 10 rfl (sc 11 rfl (sc 27 rfl (sc 28 rfl (sc 29 rfl (sc 44 rfl (sc 45 rfl (sc 46 rfl (sc 47 rfl (sc 48 rfl (sc 49 rfl (sc 50 rfl (sc 51 rfl (sc 52 rfl (sc 53 rfl (sc 54 rfl (sc 55 rfl (sc 56 rfl (sc 57 rfl (sc 58 rfl (sc 59 rfl (sc 60 rfl (sc 61 rfl (sc 62 rfl (sc 63 rfl (sc 64 rfl (sc 65 rfl (sc 66 rfl (sc 67 rfl sn)))))))))))))))))))))))))))))))))))) (by kernel_rfl) (cc rfl (p_bin g0 (od rfl id) (oc _) (inc_3 (by omega)))
            (cc rfl (p_move g0 (od rfl id)) cn)) fun a22 w22 b22 s22 => ?_
        have z22 := z21.trans (b22.mono z21.size)
        exact ⟨hlt2, s22.to _ ⟨rfl, rfl, rfl, rfl, rfl, rfl, rfl, rfl, rfl, rfl, rfl, rfl, True.intro⟩, z22, True.intro⟩
      · -- false
        obtain rfl : i = (segsTo l l.length).length := by have := of_decide_eq_false h; (try dsimp only at this); omega
        refine wp_exit ?_
        refine wp_seq ?_
        refine flowC mixed (s19.keep (sc 0 rfl (sc 1 rfl (sc 4 rfl (sc 5 rfl (sc 6 rfl (sc 7 rfl (sc 27 rfl (sc 28 rfl (sc 29 rfl (sc 44 rfl (sc 45 rfl (sc 46 rfl sn))))))))))))) (by kernel_rfl) (by kernel_rfl) (cc rfl (p_move g0 (od rfl id))
            (cc rfl (p_move g0 (od rfl id))
            (cc rfl (p_call 25 g0 (ox (od rfl id) (ox (od rfl id) ox0)) (fun _ _ => by kernel_rfl) (f25 (by omega)))
            (cc rfl (p_move g0 (od rfl id))
            (cc rfl (p_ext0 g0 (od rfl id))
            (cc rfl (p_ext1 g0 (od rfl id))
            (cc rfl (p_assign g0 (od rfl id))
            (cc rfl (p_assign g0 (od rfl id)) cn)))))))) fun a23 w23 b23 s23 => ?_
        have z23 := z19.trans (b23.mono z19.size)
        refine wp_seq ?_
        refine flowT (s23.keep (sc 0 rfl (sc 1 rfl (sc 4 rfl (sc 5 rfl (sc 6 rfl (sc 7 rfl (sc 12 rfl (sc 13 rfl (sc 27 rfl (sc 28 rfl (sc 29 rfl (sc 44 rfl (sc 45 rfl (sc 46 rfl sn))))))))))))))) (by kernel_rfl) (cc rfl (p_move g0 (od rfl id))
            (cc rfl (p_len ln_29 g0 (od rfl id))
            (cc rfl (p_move g0 (od rfl id))
            (cc rfl (p_lenM Try.underlying82 g0 (od rfl id))
            (cc rfl (p_bin g0 (od rfl id) (od rfl id) b_eql_3)
            (cc rfl (p_move g0 (od rfl id))
            (cc rfl (p_move (g1 rfl rfl) (od rfl (fun _ => rfl)))
            (cc rfl (p_move (g1 rfl rfl) (od rfl id))
            (cc rfl (p_move (g1 rfl rfl) (od rfl (fun _ => rfl)))
            (cc rfl (p_bin (g1 rfl rfl) (od rfl id) (oc _) b_eql_73)
            (cc rfl (p_move (g1 rfl rfl) (od rfl id))
            (cc rfl (p_move (g1 rfl rfl) (od rfl (fun _ => rfl)))
            (cc rfl (p_len ln_41 (g1 rfl rfl) (od rfl id))
            (cc rfl (p_bin (g1 rfl rfl) (od rfl id) (oc _) b_eql_3)
            (cc rfl (p_and (g1 rfl rfl) (od rfl id) (od rfl id))
            (cc rfl (p_or (g1 rfl rfl) (od rfl id) (od rfl id))
            (cc rfl (p_and g0 (od rfl id) (od rfl id))
            (cc rfl (p_move g0 (od rfl id))
            (cc rfl (p_move (g1 rfl rfl) (od rfl (fun _ => rfl)))
            (cc rfl (p_not (g1 rfl rfl) (od rfl id))
            (cc rfl (p_move (g1 rfl rfl) (od rfl id))
            (cc rfl (p_move (g1 rfl rfl) (od rfl (fun _ => rfl)))
            (cc rfl (p_bin (g1 rfl rfl) (od rfl id) (oc _) b_eql_73)
            (cc rfl (p_move (g1 rfl rfl) (od rfl id))
            (cc rfl (p_move (g1 rfl rfl) (od rfl (fun _ => rfl)))
            (cc rfl (p_len ln_41 (g1 rfl rfl) (od rfl id))
            (cc rfl (p_move (g1 rfl rfl) (od rfl (fun _ => rfl)))
            (cc rfl (p_len ln_41 (g1 rfl rfl) (od rfl id))
            (cc rfl (p_bin (g1 rfl rfl) (od rfl id) (oc _) b_sub_3)
            (cc rfl (p_bin (g1 rfl rfl) (od rfl id) (od rfl id) b_eql_3)
            (cc rfl (p_and (g1 rfl rfl) (od rfl id) (od rfl id))
            (cc rfl (p_or (g1 rfl rfl) (od rfl id) (od rfl id))
            (cc rfl (p_and g0 (od rfl id) (od rfl id))
            (cc rfl (p_assign g0 (od rfl id)) cn)))))))))))))))))))))))))))))))))) fun a24 w24 b24 s24 => ?_
        have z24 := z23.trans (b24.mono z23.size)
        exact wp_ret (ret_law (fn := Try.f9) s24 4 rfl rfl (seg_law hl hr) z24)

set_option maxRecDepth 100000 in
theorem mapsSegs_lifted (os : Os) (started : os.Started) (H : Type) (enc : TypeId × Value → H) :
    ReturnsInHanded {} Try.checked os 9 .any (Rows.mapsSegsSpec.pre6 enc Try.prog Try.f9 Rows.mapsSegsRow.domain false) (Rows.mapsSegsSpec.post enc Try.prog Try.f9 false true false false) := by
  refine lifted_of (C := Try.checked) laidOut own started (by kernel_rfl) Try.func9 rfl Try.underlying4 (by kernel_rfl) rfl
    (fun ds hds => by match ds, hds with | [_, _], _ => rfl)
    (ChangeSpec.witness6 (enc := enc) (C := Try.checked) false ⟨#[], #[.slice none 0 0, .int .i64 0], []⟩ 8 (by kernel_rfl) (by kernel_rfl) (by kernel_rfl) (by kernel_rfl)) ?_
  intro w base args ds ps hval0 hA0 hlt
  have hval : ∀ (j : Nat) t v, Try.f9.params[j]? = some t → args[j]? = some v → Value.okWide Try.prog w .any base t v := hval0
  have hA : DataW.TrodAll enc Try.prog w 0 (fun _ => true) true Try.f9.params.toList args.toList ds ps := hA0
  rw [Try.params9] at hA hval
  obtain ⟨v0, vs0, d0, ds0, p0, q0, hargs, rfl, rfl, h0, r0⟩ := trodAll_cons hA
  obtain ⟨v1, vs1, d1, ds1, p1, q1, rfl, rfl, rfl, h1, r1⟩ := trodAll_cons r0
  obtain ⟨rfl, rfl, rfl⟩ := trodAll_nil r1
  obtain rfl : args = #[v0, v1] := by cases args; simp_all
  obtain ⟨x0, o0, s0⟩ := open_sl Try.underlying41 opens_maps (hval 0 41 v0 rfl rfl) h0 (fun x hx => hlt x (List.mem_append_left _ hx))
  obtain ⟨x1, rfl, rfl, rfl, o1⟩ := open_int Try.underlying3 (hval 1 3 v1 rfl rfl) h1
  exact mapsSegs_walk w v0 _ x0 _ o0 s0 rfl

set_option maxRecDepth 100000 in
theorem mapsSegs_facts : joinedFacts Try.pinned.checked.prog 9 Try.f9 Rows.mapsSegsSpec Rows.mapsSegsRow = true := by
  show joinedFacts Try.prog 9 Try.f9 Rows.mapsSegsSpec Rows.mapsSegsRow = true
  unfold joinedFacts
  rw [mayEnter_ok, liftsFinal_ok, make_ok]
  kernel_rfl
theorem mapsSegs_holds : Rows.MapsSegsSaid :=
  OpenClaim.holds_of_wide 9 Try.f9 rfl rfl rfl rfl rfl rfl rfl ⟨rfl, rfl, rfl, rfl, rfl⟩ rfl rfl rfl rfl rfl (by kernel_rfl) Try.func9 mapsSegs_facts
    (of_decide_eq_true (by kernel_rfl)) (by unfold Func.isWrapper; rw [if_neg (of_decide_eq_false (by kernel_rfl))]; exact ⟨rfl, rfl⟩)
    (fun os started H enc _ => mapsSegs_lifted os started H enc)
#print axioms mapsSegs_holds

end Go.Proofs.Ytbeeiecbbmiojaa.Y
