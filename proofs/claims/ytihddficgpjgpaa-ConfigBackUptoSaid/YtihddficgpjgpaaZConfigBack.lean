/- ConfigBack: a configuration that may be is told by its bytes; one byte more or less is refused (second form: where what comes in is of bulk at most 1048576) -/
import Derived.Test.YtihddficgpjgpaaZYat
import Derived.Test.YtihddficgpjgpaaZHead
namespace Go.Proofs.Ytihddficgpjgpaa.Y
open Go.RowKit Go.ChangeShapes Go.WideShapes Go.ChangeAt
set_option maxRecDepth 100000 in
theorem configBack_walk (w : World) (v0 : Value) (c : Cf) (h0 : (.st plL c : Sym).on w noF v0) (hC : okCB 1048576 c): Calls Try.prog 26 #[v0] w fun e w' => e = .returned (.bool true) ∧ Below w.heap.size w w' := by
  obtain ⟨i0, hi0, hz0, hz1, hz2⟩ := info_parts Try.info5
  go_enter Try.func26, Try.ntmps26
  refine wp_seq ?_
  refine flowC mixed (st0 (U := True) (N := 189) (e := [(0, true, .st plL c)]) (F := noF) rfl rfl (fok_none True w) ⟨⟨rfl, h0⟩, True.intro⟩) (by kernel_rfl) (by kernel_rfl) (cc rfl (p_box bx_56 g0 (od rfl id))
      (cc rfl (p_assign g0 (oc _)) cn)) fun a1 w1 b1 s1 => ?_
  have z1 := b1
  refine wp_seq ?_
  refine wp_seq ?_
  refine flowC mixed (s1.keep (sc 1 rfl (sc 2 rfl sn))) (by kernel_rfl) (by kernel_rfl) (cc rfl (p_call 43 g0 ox0 (fun _ _ => by kernel_rfl) f43)
      (cc rfl (p_not g0 (od rfl id)) cn)) fun a2 w2 b2 s2 => ?_
  have z2 := z1.trans (b2.mono z1.size)
  refine s2.cond 15 rfl (fun h => absurd h (by decide)) fun _ => ?_
  refine wp_skip ?_
  refine wp_seq ?_
  refine wp_seq ?_
  refine flowC mixed (s2.keep (sc 1 rfl (sc 2 rfl sn))) (by kernel_rfl) (by kernel_rfl) (cc rfl (p_load Try.underlying56 rfl sz_56 g0 (od rfl id))
      (cc rfl (p_call 44 g0 (ox (od rfl id) ox0) (fun _ _ => by kernel_rfl) (f44 (few_of hC)))
      (cc rfl (p_not g0 (od rfl id)) cn))) fun a3 w3 b3 s3 => ?_
  have z3 := z2.trans (b3.mono z2.size)
  refine s3.cond 18 rfl (fun h18 => ?_) (fun h18 => ?_)
  · -- true
    refine wp_seq ?_
    refine flowT (s3.keep (sc 1 rfl (sc 2 rfl sn))) (by kernel_rfl) (cc rfl (p_assign g0 (oc _)) cn) fun a4 w4 b4 s4 => ?_
    have z4 := z3.trans (b4.mono z3.size)
    exact wp_ret (ret_law (fn := Try.f26) s4 2 rfl rfl rfl z4)
  · -- false
    have hL : lightB c = true := by rw [Bool.not_eq_false'] at h18; exact h18
    obtain ⟨hn1, hn2, hob, hsg⟩ := plan_facts hC hL
    refine wp_skip ?_
    refine wp_seq ?_
    refine flowQ 3 mixed (s3.keep (sc 1 rfl (sc 2 rfl sn))) (by kernel_rfl) (by kernel_rfl) (cc rfl (p_load Try.underlying56 rfl sz_56 g0 (od rfl id))
        (cc rfl (p_call 45 g0 (ox (od rfl id) ox0) (fun _ _ => by kernel_rfl) (f45 hL))
        (ca rfl (m_alloc al_59 nu59) cn))) (by kernel_rfl) (ss rfl rfl rfl rfl puts_st sz_59 rfl rfl ss0) fun a5 w5 b5 s5 => ?_
    have z5 := z3.trans (b5.mono z3.size)
    refine wp_seq ?_
    refine wp_seq ?_
    refine flowC mixed (s5.keep (sc 2 rfl (sc 3 rfl sn))) (by kernel_rfl) (by kernel_rfl) (cc rfl (p_load u_59 ur_59 sz_59 g0 (od rfl id))
        (cc rfl (p_call 47 g0 (ox (od rfl id) ox0) (fun _ _ => by kernel_rfl) (f47 (by omega) (by omega) (fun o ho => by have := (hob o ho).1; unfold maxLen; omega)))
        (cc rfl (p_not g0 (od rfl id)) cn))) fun a6 w6 b6 s6 => ?_
    have z6 := z5.trans (b6.mono z5.size)
    refine s6.cond 23 rfl (fun h23 => ?_) (fun h23 => ?_)
    · -- true
      refine wp_seq ?_
      refine flowT (s6.keep (sc 2 rfl (sc 3 rfl sn))) (by kernel_rfl) (cc rfl (p_assign g0 (oc _)) cn) fun a7 w7 b7 s7 => ?_
      have z7 := z6.trans (b7.mono z6.size)
      exact wp_ret (ret_law (fn := Try.f26) s7 2 rfl rfl rfl z7)
    · -- false
      have hr : rightC (planC c) = true := by rw [right_same hsg]; rw [Bool.not_eq_false'] at h23; exact h23
      have hT := tell_plan hC hL hr
      have hlb := cf_len hT hr
      have hby := cfB_byt hT
      have hge := cfB_ge (planC c)
      have s6 := s6.loose
      refine wp_skip ?_
      refine wp_seq ?_
      refine flowC mixed (s6.keep (sc 2 rfl (sc 3 rfl sn))) (by kernel_rfl) (by kernel_rfl) (cc rfl (p_load u_59 ur_59 sz_59 g0 (od rfl id))
          (cc rfl (p_call 95 g0 (ox (od rfl id) ox0) (fun _ _ => by kernel_rfl) (f95 hT hlb))
          (cc rfl (p_assign g0 (od rfl id)) cn))) fun a8 w8 b8 s8 => ?_
      have z8 := z6.trans (b8.mono z6.size)
      refine wp_seq ?_
      refine wp_region_lit ?_
      refine chainK 5 (cc rfl (p_move g0 (od rfl id))
          (cc rfl (p_call 96 g0 (ox (od rfl id) ox0) (fun _ _ => by kernel_rfl) (f96 (bs := (cfB (planC c))) hby (by omega)))
          (cc rfl (p_move g0 (od rfl id))
          (cc rfl (p_ext0 g0 (od rfl id))
          (cc rfl (p_ext1 g0 (od rfl id)) cn))))) (by kernel_rfl) (s8.keep (sc 2 rfl (sc 3 rfl (sc 4 rfl sn)))) fun a9 w9 b9 s9 => ?_
      have z9 := z8.trans (b9.mono z8.size)
      have s9 := s9.more 29 (y := .st cfL (planC c)) (by have q := s9.get 29 (y := .st cfL (decV (cfB (planC c))).1) rfl; rwa [dec_put hT hr] at q)
      have s9 := s9.more 30 (y := .int .i64 0) (int_as (s9.get 30 rfl) (by rw [dec_put hT hr]))
      show wpList _ _ _ (_ :: _) _ _
      refine alloc_U (u := 59) (z := #[.int .i64 0, .int .i64 0, .int .i64 0, .slice none 0 0, .slice none 0 0]) s9 (fun u => u.elim) rfl (by decide) rfl (fun ev w => al_59 ev w) fun g5 a10 w10 k5 hg5 b10 s10 => ?_
      have hw5 := Nat.le_trans z9.size hg5
      have z10 := z9.trans (b10.mono z9.size)
      show wpList _ _ _ (_ :: _) _ _
      refine store_U (L := cfL) 5 29 s10 rfl rfl rfl rfl rfl k5 rfl sz_59 (fun _ => .inr rfl) (fun u => u.elim) fun cs5 a11 w11 k5 _ hL5 G5 s11 => ?_
      have z11 := z10.grown G5 z10.size (fun k e => by cases e; exact hw5)
      have s11 := s11.less (F' := noF) (fun _ h => h.elim)
      have s11 := s11.more 5 (y := .at cfL (planC c)) (at_blk2 k5 hL5 (s11.get 5 rfl))
      refine chainT (t := []) (cc rfl (p_assign g0 (od rfl id)) cn) (by kernel_rfl) s11 fun a12 w12 b12 s12 => wpList_done ?_
      have z12 := z11.trans (b12.mono z11.size)
      refine wp_seq ?_
      refine wp_region_lit ?_
      refine chainK 1 (cc rfl (p_move g0 (od rfl id)) cn) (by kernel_rfl) (s12.keep (sc 2 rfl (sc 3 rfl (sc 4 rfl (sc 5 rfl (sc 6 rfl sn)))))) fun a13 w13 b13 s13 => ?_
      have z13 := z12.trans (b13.mono z12.size)
      show wpList _ _ _ (_ :: _) _ _
      refine copy0_step byF 32 id s13 rfl rfl (by decide) rfl Try.underlying22 hi0 hz0 hz1 hz2 rfl (by decide) (by decide) rfl (by omega) z13.size fun vc a14 w14 grvc hvc0 b14 s14 => ?_
      have hvc : ∀ x, vc.ownBlock = some x → w.heap.size ≤ x := fun x hx => Nat.le_trans z13.size (hvc0 x hx)
      have z14 := z13.trans (b14.mono z13.size)
      refine chainK 1 (cc rfl (p_lits1 bs_22_1 g0 (oc _)) cn) (by kernel_rfl) s14 fun a15 w15 b15 s15 => ?_
      have z15 := z14.trans (b15.mono z14.size)
      have grvc := grvc.below b15
      have s15 := s15.more 34 (y := .by [0]) ((s15.get 34 rfl).2)
      show wpList _ _ _ (_ :: _) _ _
      refine app_step byF 33 34 id s15 grvc rfl rfl (by decide) rfl Try.underlying22 hi0 hz0 hz1 hz2 rfl (by decide) rfl rfl z15.size (by unfold maxLen; simp only [List.length_singleton]; omega) (by simp only [List.length_singleton]; omega) fun a16 w16 g16 s16 => ?_
      have z16 := z15.grown g16 z15.size fun k e => hvc k e
      refine chainK 4 (cc rfl (p_call 96 g0 (ox (od rfl id) ox0) (fun _ _ => by kernel_rfl) (f96 (bs := (cfB (planC c)) ++ [0]) (byt_app hby (fun x hx => by rw [List.mem_singleton.1 hx]; decide)) (by rw [List.length_append]; simp only [List.length_singleton]; omega)))
          (cc rfl (p_move g0 (od rfl id))
          (cc rfl (p_ext0 g0 (od rfl id))
          (cc rfl (p_ext1 g0 (od rfl id)) cn)))) (by kernel_rfl) s16 fun a17 w17 b17 s17 => ?_
      have z17 := z16.trans (b17.mono z16.size)
      have s17 := s17.more 38 (y := .int .i64 10) (int_as (s17.get 38 rfl) (by rw [dec_more hT]))
      show wpList _ _ _ (_ :: _) _ _
      refine alloc_U (u := 59) (z := #[.int .i64 0, .int .i64 0, .int .i64 0, .slice none 0 0, .slice none 0 0]) s17 (fun u => u.elim) rfl (by decide) rfl (fun ev w => al_59 ev w) fun g7 a18 w18 k7 hg7 b18 s18 => ?_
      have hw7 := Nat.le_trans z17.size hg7
      have z18 := z17.trans (b18.mono z17.size)
      show wpList _ _ _ (_ :: _) _ _
      refine store_U (L := cfL) 7 37 s18 rfl rfl rfl rfl rfl k7 rfl sz_59 (fun _ => .inr rfl) (fun u => u.elim) fun cs7 a19 w19 k7 _ hL7 G7 s19 => ?_
      have z19 := z18.grown G7 z18.size (fun k e => by cases e; exact hw7)
      have s19 := s19.less (F' := noF) (fun _ h => h.elim)
      refine chainT (t := []) (cc rfl (p_assign g0 (od rfl id)) cn) (by kernel_rfl) s19 fun a20 w20 b20 s20 => wpList_done ?_
      have z20 := z19.trans (b20.mono z19.size)
      refine wp_seq ?_
      refine wp_region_lit ?_
      refine chainK 9 (cc rfl (p_move g0 (od rfl id))
          (cc rfl (p_move g0 (od rfl id))
          (cc rfl (p_len ln_22 g0 (od rfl id))
          (cc rfl (p_binE (n' := (((cfB (planC c)).length - 1 : Nat) : Int)) (by rw [IntKind.wrap_i64]; omega) g0 (od rfl id) (oc _) b_sub_3)
          (cc rfl (p_slHi (k := (cfB (planC c)).length - 1) (by omega) g0 (od rfl id) (od rfl id))
          (cc rfl (p_call 96 g0 (ox (od rfl id) ox0) (fun _ _ => by kernel_rfl) (f96 (bs := (cfB (planC c)).take ((cfB (planC c)).length - 1)) (byt_take hby _) (by rw [List.length_take]; omega)))
          (cc rfl (p_move g0 (od rfl id))
          (cc rfl (p_ext0 g0 (od rfl id))
          (cc rfl (p_ext1 g0 (od rfl id)) cn))))))))) (by kernel_rfl) (s20.keep (sc 2 rfl (sc 3 rfl (sc 4 rfl (sc 5 rfl (sc 6 rfl (sc 8 rfl sn))))))) fun a21 w21 b21 s21 => ?_
      have z21 := z20.trans (b21.mono z20.size)
      have s21 := s21.more 47 (y := .int .i64 10) (int_as (s21.get 47 rfl) (dec_less hT hby))
      show wpList _ _ _ (_ :: _) _ _
      refine alloc_U (u := 59) (z := #[.int .i64 0, .int .i64 0, .int .i64 0, .slice none 0 0, .slice none 0 0]) s21 (fun u => u.elim) rfl (by decide) rfl (fun ev w => al_59 ev w) fun g9 a22 w22 k9 hg9 b22 s22 => ?_
      have hw9 := Nat.le_trans z21.size hg9
      have z22 := z21.trans (b22.mono z21.size)
      show wpList _ _ _ (_ :: _) _ _
      refine store_U (L := cfL) 9 46 s22 rfl rfl rfl rfl rfl k9 rfl sz_59 (fun _ => .inr rfl) (fun u => u.elim) fun cs9 a23 w23 k9 _ hL9 G9 s23 => ?_
      have z23 := z22.grown G9 z22.size (fun k e => by cases e; exact hw9)
      have s23 := s23.less (F' := noF) (fun _ h => h.elim)
      refine chainT (t := []) (cc rfl (p_assign g0 (od rfl id)) cn) (by kernel_rfl) s23 fun a24 w24 b24 s24 => wpList_done ?_
      have z24 := z23.trans (b24.mono z23.size)
      refine wp_seq ?_
      refine wp_seq ?_
      refine flowC mixed (s24.keep (sc 2 rfl (sc 3 rfl (sc 5 rfl (sc 6 rfl (sc 8 rfl (sc 10 rfl sn))))))) (by kernel_rfl) (by kernel_rfl) (cc rfl (p_move g0 (od rfl id))
          (cc rfl (p_bin g0 (od rfl id) (oc _) b_neq_47)
          (cc rfl (p_move g0 (od rfl id))
          (cc rfl (p_move (g1 rfl rfl) (od rfl (fun _ => rfl)))
          (cc rfl (p_bin (g1 rfl rfl) (od rfl id) (oc _) b_neq_47)
          (cc rfl (p_or g0 (od rfl id) (od rfl id))
          (cc rfl (p_move g0 (od rfl id))
          (cc rfl (p_move (g1 rfl rfl) (od rfl (fun _ => rfl)))
          (cc rfl (p_bin (g1 rfl rfl) (od rfl id) (oc _) b_neq_47)
          (cc rfl (p_or g0 (od rfl id) (od rfl id))
          (cc rfl (p_move g0 (od rfl id))
          (cc rfl (p_load u_59 ur_59 sz_59 (g1 rfl rfl) (od rfl (fun _ => rfl)))
          (cc rfl (p_load u_59 ur_59 sz_59 (g1 rfl rfl) (od rfl (fun _ => rfl)))
          (cc rfl (p_call 97 (g1 rfl rfl) (ox (od rfl id) (ox (od rfl id) ox0)) (fun _ _ => by kernel_rfl) (f97 hT hlb hT hlb))
          (cc rfl (p_not (g1 rfl rfl) (od rfl id))
          (cc rfl (p_or g0 (od rfl id) (od rfl id))
          (cc rfl (p_move g0 (od rfl id))
          (cc rfl (p_fieldAddr pt59_4 fa_59_4 (g1 rfl rfl) (od rfl (fun _ => rfl)))
          (cc rfl (p_load1 rfl ld_57 (g1 rfl rfl) (od rfl id))
          (cc rfl (p_len ln_57 (g1 rfl rfl) (od rfl id))
          (cc rfl (p_fieldAddr pt59_4 fa_59_4 (g1 rfl rfl) (od rfl (fun _ => rfl)))
          (cc rfl (p_load1 rfl ld_57 (g1 rfl rfl) (od rfl id))
          (cc rfl (p_len ln_57 (g1 rfl rfl) (od rfl id))
          (cc rfl (p_bin (g1 rfl rfl) (od rfl id) (od rfl id) b_neq_3)
          (cc rfl (p_or g0 (od rfl id) (od rfl id)) cn))))))))))))))))))))))))) fun a25 w25 b25 s25 => ?_
      have z25 := z24.trans (b25.mono z24.size)
      refine s25.cond 72 rfl (fun h => absurd h (by simp)) fun _ => ?_
      refine wp_skip ?_
      refine wp_seq ?_
      refine wp_seq ?_
      refine flowC mixed (s25.keep (sc 2 rfl (sc 3 rfl (sc 5 rfl sn)))) (by kernel_rfl) (by kernel_rfl) (cc rfl (p_fieldAddr pt59_4 fa_59_4 g0 (od rfl id))
          (cc rfl (p_load1 rfl ld_57 g0 (od rfl id))
          (cc rfl (p_len ln_57 g0 (od rfl id))
          (cc rfl (p_move g0 (oc _)) cn)))) fun a26 w26 b26 s26 => ?_
      have z26 := z25.trans (b26.mono z25.size)
      refine wp_block ?_
      refine wp_range ((planC c).obs.length) 76 (fun i => []) (fun _ _ => True) (s26.keep (sc 76 rfl (sc 2 rfl (sc 3 rfl (sc 5 rfl (sc 74 rfl (sc 75 rfl sn))))))) z26 True.intro fun i a27 w27 hi1 s27 z27 x27 => ?_
      refine wp_seq ?_
      refine flowC mixed (s27.keep (sc 2 rfl (sc 3 rfl (sc 5 rfl (sc 74 rfl (sc 75 rfl (sc 76 rfl sn))))))) (by kernel_rfl) (by kernel_rfl) (cc rfl (p_bin g0 (od rfl id) (od rfl id) b_lss_3) cn) fun a28 w28 b28 s28 => ?_
      have z28 := z27.trans (b28.mono z27.size)
      refine wp_seq ?_
      refine s28.cond 77 rfl (fun h => ?_) (fun h => ?_)
      · -- true
        have hlt1 : i < ((planC c).obs).length := by simpa using h
        obtain ⟨o, eo⟩ : ∃ x, ((planC c).obs)[i]? = some x := ⟨_, List.getElem?_eq_getElem hlt1⟩
        have hbo : Pk.Byt o.dat := plan_dat hC (List.mem_of_getElem? eo)
        refine wp_skip ?_
        refine wp_seq ?_
        refine wp_block ?_
        refine wp_seq ?_
        refine flowQ 5 mixed (s28.keep (sc 2 rfl (sc 3 rfl (sc 5 rfl (sc 74 rfl (sc 75 rfl (sc 76 rfl (sc 77 rfl sn)))))))) (by kernel_rfl) (by kernel_rfl) (cc rfl (p_move g0 (od rfl id))
            (cc rfl (p_index ix_57 eo g0 (od rfl id) (od rfl id))
            (cc rfl (p_load u_67 ur_67 sz_67 g0 (od rfl id))
            (ca rfl (m_alloc al_67 nu67)
            (cc rfl (p_assign g0 (od rfl id)) cn))))) (by kernel_rfl) (ss rfl rfl rfl rfl puts_st sz_67 rfl rfl ss0) fun a29 w29 b29 s29 => ?_
        have z29 := z28.trans (b29.mono z28.size)
        refine wp_seq ?_
        refine flowQ 6 mixed (s29.keep (sc 2 rfl (sc 3 rfl (sc 5 rfl (sc 11 rfl (sc 12 rfl (sc 74 rfl (sc 75 rfl (sc 76 rfl (sc 77 rfl (sc 78 rfl (sc 79 rfl (sc 80 rfl sn))))))))))))) (by kernel_rfl) (by kernel_rfl) (cc rfl (p_fieldAddr pt59_4 fa_59_4 g0 (od rfl id))
            (cc rfl (p_load1 rfl ld_57 g0 (od rfl id))
            (cc rfl (p_move g0 (od rfl id))
            (cc rfl (p_index ix_57 eo g0 (od rfl id) (od rfl id))
            (cc rfl (p_load u_67 ur_67 sz_67 g0 (od rfl id))
            (ca rfl (m_alloc al_67 nu67) cn)))))) (by kernel_rfl) (ss rfl rfl rfl rfl puts_st sz_67 rfl rfl ss0) fun a30 w30 b30 s30 => ?_
        have z30 := z29.trans (b30.mono z29.size)
        refine wp_seq ?_
        refine flowC mixed (s30.keep (sc 2 rfl (sc 3 rfl (sc 5 rfl (sc 11 rfl (sc 12 rfl (sc 13 rfl (sc 74 rfl (sc 75 rfl (sc 76 rfl (sc 77 rfl (sc 78 rfl (sc 79 rfl (sc 80 rfl (sc 81 rfl (sc 82 rfl (sc 83 rfl (sc 84 rfl (sc 85 rfl sn))))))))))))))))))) (by kernel_rfl) (by kernel_rfl) (cc rfl (p_fieldAddr pt67_0 fa_67_0 g0 (od rfl id))
            (cc rfl (p_loadI ld_3 g0 (od rfl id))
            (cc rfl (p_fieldAddr pt67_0 fa_67_0 g0 (od rfl id))
            (cc rfl (p_loadI ld_3 g0 (od rfl id))
            (cc rfl (p_bin g0 (od rfl id) (od rfl id) b_neq_3)
            (cc rfl (p_move g0 (od rfl id))
            (cc rfl (p_fieldAddr pt67_1 fa_67_1 (g1 rfl rfl) (od rfl (fun _ => rfl)))
            (cc rfl (p_loadI ld_3 (g1 rfl rfl) (od rfl id))
            (cc rfl (p_fieldAddr pt67_1 fa_67_1 (g1 rfl rfl) (od rfl (fun _ => rfl)))
            (cc rfl (p_loadI ld_3 (g1 rfl rfl) (od rfl id))
            (cc rfl (p_bin (g1 rfl rfl) (od rfl id) (od rfl id) b_neq_3)
            (cc rfl (p_or g0 (od rfl id) (od rfl id))
            (cc rfl (p_move g0 (od rfl id))
            (cc rfl (p_fieldAddr pt67_2 fa_67_2 (g1 rfl rfl) (od rfl (fun _ => rfl)))
            (cc rfl (p_load Try.underlying39 rfl sz_39 (g1 rfl rfl) (od rfl id))
            (cc rfl (p_fieldAddr pt67_2 fa_67_2 (g1 rfl rfl) (od rfl (fun _ => rfl)))
            (cc rfl (p_load Try.underlying39 rfl sz_39 (g1 rfl rfl) (od rfl id))
            (cc rfl (p_call 38 (g1 rfl rfl) (ox (od rfl id) (ox (od rfl id) ox0)) (fun _ _ => by kernel_rfl) (f38 (by decide)))
            (cc rfl (p_not (g1 rfl rfl) (od rfl id))
            (cc rfl (p_or g0 (od rfl id) (od rfl id))
            (cc rfl (p_move g0 (od rfl id))
            (cc rfl (p_fieldAddr pt67_3 fa_67_3 (g1 rfl rfl) (od rfl (fun _ => rfl)))
            (cc rfl (p_load Try.underlying39 rfl sz_39 (g1 rfl rfl) (od rfl id))
            (cc rfl (p_fieldAddr pt67_3 fa_67_3 (g1 rfl rfl) (od rfl (fun _ => rfl)))
            (cc rfl (p_load Try.underlying39 rfl sz_39 (g1 rfl rfl) (od rfl id))
            (cc rfl (p_call 38 (g1 rfl rfl) (ox (od rfl id) (ox (od rfl id) ox0)) (fun _ _ => by kernel_rfl) (f38 (by decide)))
            (cc rfl (p_not (g1 rfl rfl) (od rfl id))
            (cc rfl (p_or g0 (od rfl id) (od rfl id))
            (cc rfl (p_move g0 (od rfl id))
            (cc rfl (p_fieldAddr pt67_4 fa_67_4 (g1 rfl rfl) (od rfl (fun _ => rfl)))
            (cc rfl (p_loadI ld_3 (g1 rfl rfl) (od rfl id))
            (cc rfl (p_fieldAddr pt67_4 fa_67_4 (g1 rfl rfl) (od rfl (fun _ => rfl)))
            (cc rfl (p_loadI ld_3 (g1 rfl rfl) (od rfl id))
            (cc rfl (p_bin (g1 rfl rfl) (od rfl id) (od rfl id) b_neq_3)
            (cc rfl (p_or g0 (od rfl id) (od rfl id))
            (cc rfl (p_move g0 (od rfl id))
            (cc rfl (p_fieldAddr pt67_5 fa_67_5 (g1 rfl rfl) (od rfl (fun _ => rfl)))
            (cc rfl (p_loadI ld_3 (g1 rfl rfl) (od rfl id))
            (cc rfl (p_fieldAddr pt67_5 fa_67_5 (g1 rfl rfl) (od rfl (fun _ => rfl)))
            (cc rfl (p_loadI ld_3 (g1 rfl rfl) (od rfl id))
            (cc rfl (p_bin (g1 rfl rfl) (od rfl id) (od rfl id) b_neq_3)
            (cc rfl (p_or g0 (od rfl id) (od rfl id))
            (cc rfl (p_move g0 (od rfl id))
            (cc rfl (p_fieldAddr pt67_6 fa_67_6 (g1 rfl rfl) (od rfl (fun _ => rfl)))
            (cc rfl (p_load1 rfl ld_22 (g1 rfl rfl) (od rfl id))
            (cc rfl (p_str (g1 rfl rfl) (od rfl id))
            (cc rfl (p_fieldAddr pt67_6 fa_67_6 (g1 rfl rfl) (od rfl (fun _ => rfl)))
            (cc rfl (p_load1 rfl ld_22 (g1 rfl rfl) (od rfl id))
            (cc rfl (p_str (g1 rfl rfl) (od rfl id))
            (cc rfl (p_bin (g1 rfl rfl) (od rfl id) (od rfl id) (b_neq_9 hbo hbo))
            (cc rfl (p_or g0 (od rfl id) (od rfl id))
            (cc rfl (p_move g0 (od rfl id))
            (cc rfl (p_fieldAddr pt67_7 fa_67_7 (g1 rfl rfl) (od rfl (fun _ => rfl)))
            (cc rfl (p_load1 rfl ld_65 (g1 rfl rfl) (od rfl id))
            (cc rfl (p_len ln_65 (g1 rfl rfl) (od rfl id))
            (cc rfl (p_fieldAddr pt67_7 fa_67_7 (g1 rfl rfl) (od rfl (fun _ => rfl)))
            (cc rfl (p_load1 rfl ld_65 (g1 rfl rfl) (od rfl id))
            (cc rfl (p_len ln_65 (g1 rfl rfl) (od rfl id))
            (cc rfl (p_bin (g1 rfl rfl) (od rfl id) (od rfl id) b_neq_3)
            (cc rfl (p_or g0 (od rfl id) (od rfl id))
            (cc rfl (p_move g0 (od rfl id))
            (cc rfl (p_fieldAddr pt67_8 fa_67_8 (g1 rfl rfl) (od rfl (fun _ => rfl)))
            (cc rfl (p_loadI ld_3 (g1 rfl rfl) (od rfl id))
            (cc rfl (p_fieldAddr pt67_8 fa_67_8 (g1 rfl rfl) (od rfl (fun _ => rfl)))
            (cc rfl (p_loadI ld_3 (g1 rfl rfl) (od rfl id))
            (cc rfl (p_bin (g1 rfl rfl) (od rfl id) (od rfl id) b_neq_3)
            (cc rfl (p_or g0 (od rfl id) (od rfl id))
            (cc rfl (p_move g0 (od rfl id))
            (cc rfl (p_fieldAddr pt67_9 fa_67_9 (g1 rfl rfl) (od rfl (fun _ => rfl)))
            (cc rfl (p_loadI ld_3 (g1 rfl rfl) (od rfl id))
            (cc rfl (p_fieldAddr pt67_9 fa_67_9 (g1 rfl rfl) (od rfl (fun _ => rfl)))
            (cc rfl (p_loadI ld_3 (g1 rfl rfl) (od rfl id))
            (cc rfl (p_bin (g1 rfl rfl) (od rfl id) (od rfl id) b_neq_3)
            (cc rfl (p_or g0 (od rfl id) (od rfl id)) cn)))))))))))))))))))))))))))))))))))))))))))))))))))))))))))))))))))))))))) fun a31 w31 b31 s31 => ?_
        have z31 := z30.trans (b31.mono z30.size)
        refine s31.cond 159 rfl (fun h => absurd h (by simp [(sameB_iff _ _).2 rfl])) fun _ => ?_
        refine wp_skip ?_
        refine flowT (s31.keep (sc 2 rfl (sc 3 rfl (sc 5 rfl (sc 11 rfl (sc 12 rfl (sc 13 rfl (sc 74 rfl (sc 75 rfl (sc 76 rfl (sc 77 rfl (sc 78 rfl (sc 79 rfl (sc 80 rfl (sc 81 rfl (sc 82 rfl (sc 83 rfl (sc 84 rfl (sc 85 rfl (sc 86 rfl (sc 87 rfl (sc 88 rfl (sc 89 rfl (sc 90 rfl (sc 91 rfl (sc 92 rfl (sc 93 rfl (sc 94 rfl (sc 95 rfl (sc 96 rfl (sc 97 rfl (sc 98 rfl (sc 99 rfl (sc 100 rfl (sc 101 rfl (sc 102 rfl (sc 103 rfl (sc 104 rfl (sc 105 rfl (sc 106 rfl (sc 107 rfl (sc 108 rfl (sc 109 rfl (sc 110 rfl (sc 111 rfl (sc 112 rfl (sc 113 rfl (sc 114 rfl (sc 115 rfl (sc 116 rfl (sc 117 rfl (sc 118 rfl (sc 119 rfl (sc 120 rfl (sc 121 rfl (sc 122 rfl (sc 123 rfl (sc 124 rfl (sc 125 rfl (sc 126 rfl (sc 127 rfl (sc 128 rfl (sc 129 rfl (sc 130 rfl (sc 131 rfl (sc 132 rfl (sc 133 rfl (sc 134 rfl (sc 135 rfl (sc 136 rfl (sc 137 rfl (sc 138 rfl (sc 139 rfl (sc 140 rfl (sc 141 rfl (sc 142 rfl (sc 143 rfl (sc 144 rfl (sc 145 rfl (sc 146 rfl (sc 147 rfl (sc 148 rfl (sc 149 rfl (sc 150 rfl (sc 151 rfl (sc 152 rfl (sc 153 rfl (sc 154 rfl (sc 155 rfl (sc 156 rfl (sc 157 rfl (sc 158 rfl (sc 159 rfl sn))))))))))))))))))))))))))))))))))))))))))))))))))))))))))))))))))))))))))))))))))))))))))))) (by kernel_rfl) (cc rfl (p_bin g0 (od rfl id) (oc _) (inc_3 (by omega)))
            (cc rfl (p_move g0 (od rfl id)) cn)) fun a32 w32 b32 s32 => ?_
        have z32 := z31.trans (b32.mono z31.size)
        exact ⟨hlt1, s32.to _ ⟨rfl, rfl, rfl, rfl, rfl, rfl, True.intro⟩, z32, True.intro⟩
      · -- false
        obtain rfl : i = ((planC c).obs).length := by have := of_decide_eq_false h; (try dsimp only at this); omega
        refine wp_exit ?_
        refine wp_seq ?_
        refine flowT (s28.keep (sc 2 rfl (sc 3 rfl (sc 5 rfl (sc 74 rfl (sc 75 rfl (sc 76 rfl sn))))))) (by kernel_rfl) (cc rfl (p_fieldAddr pt59_0 fa_59_0 g0 (od rfl id))
            (cc rfl (p_loadI ld_3 g0 (od rfl id))
            (cc rfl (p_fieldAddr pt59_0 fa_59_0 g0 (od rfl id))
            (cc rfl (p_loadI ld_3 g0 (od rfl id))
            (cc rfl (p_bin g0 (od rfl id) (od rfl id) b_eql_3)
            (cc rfl (p_move g0 (od rfl id))
            (cc rfl (p_fieldAddr pt59_1 fa_59_1 (g1 rfl rfl) (od rfl (fun _ => rfl)))
            (cc rfl (p_loadI ld_3 (g1 rfl rfl) (od rfl id))
            (cc rfl (p_fieldAddr pt59_1 fa_59_1 (g1 rfl rfl) (od rfl (fun _ => rfl)))
            (cc rfl (p_loadI ld_3 (g1 rfl rfl) (od rfl id))
            (cc rfl (p_bin (g1 rfl rfl) (od rfl id) (od rfl id) b_eql_3)
            (cc rfl (p_and g0 (od rfl id) (od rfl id))
            (cc rfl (p_move g0 (od rfl id))
            (cc rfl (p_fieldAddr pt59_2 fa_59_2 (g1 rfl rfl) (od rfl (fun _ => rfl)))
            (cc rfl (p_loadI ld_3 (g1 rfl rfl) (od rfl id))
            (cc rfl (p_fieldAddr pt59_2 fa_59_2 (g1 rfl rfl) (od rfl (fun _ => rfl)))
            (cc rfl (p_loadI ld_3 (g1 rfl rfl) (od rfl id))
            (cc rfl (p_bin (g1 rfl rfl) (od rfl id) (od rfl id) b_eql_3)
            (cc rfl (p_and g0 (od rfl id) (od rfl id))
            (cc rfl (p_move g0 (od rfl id))
            (cc rfl (p_fieldAddr pt59_3 fa_59_3 (g1 rfl rfl) (od rfl (fun _ => rfl)))
            (cc rfl (p_load1 rfl ld_53 (g1 rfl rfl) (od rfl id))
            (cc rfl (p_len ln_53 (g1 rfl rfl) (od rfl id))
            (cc rfl (p_fieldAddr pt59_3 fa_59_3 (g1 rfl rfl) (od rfl (fun _ => rfl)))
            (cc rfl (p_load1 rfl ld_53 (g1 rfl rfl) (od rfl id))
            (cc rfl (p_len ln_53 (g1 rfl rfl) (od rfl id))
            (cc rfl (p_bin (g1 rfl rfl) (od rfl id) (od rfl id) b_eql_3)
            (cc rfl (p_and g0 (od rfl id) (od rfl id))
            (cc rfl (p_assign g0 (od rfl id)) cn))))))))))))))))))))))))))))) fun a33 w33 b33 s33 => ?_
        have z33 := z28.trans (b33.mono z28.size)
        have s33 := s33.more 2 (y := .bool true) (bool_as (s33.get 2 rfl) (by simp))
        exact wp_ret (ret_law (fn := Try.f26) s33 2 rfl rfl rfl z33)
set_option maxRecDepth 100000 in
theorem configBack_lifted (os : Os) (started : os.Started) (H : Type) (enc : TypeId × Value → H) (Fi : Stop.Interp) :
    ReturnsInHanded {} Try.checked os 26 .any ((Rows.OpenSpec.upto Rows.configBackSpec).pre6 enc Try.prog Try.f26 Rows.configBackUptoRow.domain false) (((Rows.OpenSpec.upto Rows.configBackSpec).at Fi).post enc Try.prog Try.f26 false true false false) := by
  refine liftedU_of (C := Try.checked) laidOut own started (by kernel_rfl) Try.func26 rfl Try.underlying4 (by kernel_rfl) rfl
    (fun ds hds => by match ds, hds with | [_], _ => rfl)
    (OpenSpec.witness (enc := enc) (C := Try.checked) (s := Rows.OpenSpec.upto Rows.configBackSpec) (k := Rows.uptoSmall) rfl false ⟨#[], #[.agg #[.int .i64 0, .int .i64 0, .int .i64 0, .slice none 0 0, .slice none 0 0]], []⟩ 8 (by kernel_rfl) (by kernel_rfl) (by kernel_rfl)
      (x := ([.agg [.lit (.int .i64 0), .lit (.int .i64 0), .lit (.int .i64 0), .nil, .nil]], [], [])) (by kernel_rfl) rfl (by kernel_rfl)) ?_
  intro w base args ds ps hval0 hA0 hlt hB
  have hval : ∀ (j : Nat) t v, Try.f26.params[j]? = some t → args[j]? = some v → Value.okWide Try.prog w .any base t v := hval0
  have hA : DataW.TrodAll enc Try.prog w 0 (fun _ => true) true Try.f26.params.toList args.toList ds ps := hA0
  rw [Try.params26] at hA hval
  obtain ⟨v0, vs0, d0, ds0, p0, q0, hargs, rfl, rfl, h0, r0⟩ := trodAll_cons hA
  obtain ⟨rfl, rfl, rfl⟩ := trodAll_nil r0
  obtain rfl : args = #[v0] := by cases args; simp_all
  obtain ⟨x0, o0, s0⟩ := openB_st Try.underlying56 rfl opensB_plan (hval 0 56 v0 rfl rfl) h0 (fun x hx => hlt x (List.mem_append_left _ hx)) (Nat.le_trans (bulk_part (by simp)) hB)
  exact configBack_walk w _ _ s0 o0
set_option maxRecDepth 100000 in
theorem configBack_facts : joinedFacts Try.pinned.checked.prog 26 Try.f26 (Rows.OpenSpec.upto Rows.configBackSpec).bare Rows.configBackUptoRow = true := by
  show joinedFacts Try.prog 26 Try.f26 (Rows.OpenSpec.upto Rows.configBackSpec).bare Rows.configBackUptoRow = true
  unfold joinedFacts
  rw [mayEnter_ok, liftsFinal_ok, make_ok]
  kernel_rfl
theorem configBack_holds : Rows.ConfigBackUptoSaid :=
  OpenClaim.holds_of_cond 26 Try.f26 rfl rfl rfl rfl rfl rfl rfl ⟨rfl, rfl, rfl, rfl, rfl⟩ rfl rfl rfl rfl rfl (by kernel_rfl) Try.func26 configBack_facts
    (of_decide_eq_true (by kernel_rfl)) (by unfold Func.isWrapper; rw [if_neg (of_decide_eq_false (by kernel_rfl))]; exact ⟨rfl, rfl⟩)
    (fun os started H enc _ Fi => configBack_lifted os started H enc Fi)
#print axioms configBack_holds
end Go.Proofs.Ytihddficgpjgpaa.Y
