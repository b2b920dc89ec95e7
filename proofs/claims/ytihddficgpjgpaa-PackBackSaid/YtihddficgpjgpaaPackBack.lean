/- PackBack: labels' bytes tell these labels; one byte more, one byte less or one label more is refused -/
import Derived.Test.YtihddficgpjgpaaYback
namespace Go.Proofs.Ytihddficgpjgpaa.Y
open Go.RowKit Go.ChangeShapes Go.WideShapes Go.ChangeAt

set_option maxRecDepth 100000 in
theorem packBack_walk (w : World) (v0 : Value) (l : List Lab) (h0 : (.one (Lay.sl sdL) l : Sym).on w noF v0) : Calls Try.prog 6 #[v0] w fun e w' => e = .returned (.bool true) ∧ Below w.heap.size w w' := by
  obtain ⟨i0, hi0, hz0, hz1, hz2⟩ := info_parts Try.info5
  have hf := fine_all h0
  have ht : ∀ a ∈ l, Tell a := fun a ha => tell_fine (hf a ha)
  go_enter Try.func6, Try.ntmps6
  refine wp_seq ?_
  refine flowC mixed (st0 (U := True) (N := 105) (e := [(0, true, .one (Lay.sl sdL) l)]) (F := noF) rfl rfl (fok_none True w) ⟨⟨rfl, h0⟩, True.intro⟩) (by kernel_rfl) (by kernel_rfl) (cc rfl (p_assign g0 (oc _)) cn) fun a1 w1 b1 s1 => ?_
  have z1 := b1
  refine wp_seq ?_
  refine wp_seq ?_
  refine flowC mixed (s1.keep (sc 0 rfl (sc 2 rfl sn))) (by kernel_rfl) (by kernel_rfl) (cc rfl (p_call 28 g0 ox0 (fun _ _ => by kernel_rfl) (fn_any f28))
      (cc rfl (p_not g0 (od rfl id)) cn)) fun a2 w2 b2 s2 => ?_
  have z2 := z1.trans (b2.mono z1.size)
  refine s2.cond 16 rfl (fun h => absurd h (by decide)) fun _ => ?_
  refine wp_skip ?_
  refine wp_seq ?_
  refine wp_seq ?_
  refine flowC mixed (s2.keep (sc 0 rfl (sc 2 rfl sn))) (by kernel_rfl) (by kernel_rfl) (cc rfl (p_move g0 (od rfl id))
      (cc rfl (p_len ln_45 g0 (od rfl id))
      (cc rfl (p_bin g0 (od rfl id) (oc _) b_gtr_3) cn))) fun a3 w3 b3 s3 => ?_
  have z3 := z2.trans (b3.mono z2.size)
  refine s3.cond 19 rfl (fun h19 => ?_) (fun h19 => ?_)
  · -- true
    refine wp_seq ?_
    refine flowT (s3.keep (sc 0 rfl (sc 2 rfl sn))) (by kernel_rfl) (cc rfl (p_assign g0 (oc _)) cn) fun a4 w4 b4 s4 => ?_
    have z4 := z3.trans (b4.mono z3.size)
    exact wp_ret (ret_law (fn := Try.f6) s4 2 rfl rfl rfl z4)
  · -- false
    have hl : l.length ≤ 50 := by have := of_decide_eq_false h19; omega
    have hlb := labs_len ht
    refine wp_skip ?_
    refine wp_seq ?_
    refine flowC mixed (s3.keep (sc 0 rfl (sc 2 rfl sn))) (by kernel_rfl) (by kernel_rfl) (cc rfl (p_assign g0 (oc _)) cn) fun a5 w5 b5 s5 => ?_
    have z5 := z3.trans (b5.mono z3.size)
    have s5 := s5.more 3 (y := .by (labsB (l.take 0))) (⟨none, 0, by rw [show _ = _ from s5.get 3 rfl]; rfl, fun h => absurd h (by simp [labsB]), Nat.le_refl _⟩)
    refine wp_seq ?_
    refine wp_seq ?_
    refine flowC mixed (s5.keep (sc 0 rfl (sc 2 rfl (sc 3 rfl sn)))) (by kernel_rfl) (by kernel_rfl) (cc rfl (p_move g0 (od rfl id))
        (cc rfl (p_len ln_45 g0 (od rfl id))
        (cc rfl (p_move g0 (oc _)) cn))) fun a6 w6 b6 s6 => ?_
    have z6 := z5.trans (b6.mono z5.size)
    refine wp_block ?_
    refine wp_range l.length 22 (fun i => [(3, true, .by (labsB (l.take i)))]) (fun _ _ => True) (s6.keep (sc 22 rfl (sc 3 rfl (sc 0 rfl (sc 2 rfl (sc 20 rfl (sc 21 rfl sn))))))) z6 True.intro fun i a7 w7 hi1 s7 z7 x7 => ?_
    refine wp_seq ?_
    refine flowC mixed (s7.keep (sc 0 rfl (sc 2 rfl (sc 3 rfl (sc 20 rfl (sc 21 rfl (sc 22 rfl sn))))))) (by kernel_rfl) (by kernel_rfl) (cc rfl (p_bin g0 (od rfl id) (od rfl id) b_lss_3) cn) fun a8 w8 b8 s8 => ?_
    have z8 := z7.trans (b8.mono z7.size)
    refine wp_seq ?_
    refine s8.cond 23 rfl (fun h => ?_) (fun h => ?_)
    · -- true
      have hlt1 : i < l.length := by simpa using h
      obtain ⟨a, ea⟩ : ∃ x, l[i]? = some x := ⟨_, List.getElem?_eq_getElem hlt1⟩
      have hle := labsB_le l i
      refine wp_skip ?_
      refine wp_seq ?_
      refine wp_block ?_
      refine wp_seq ?_
      refine flowQ 3 mixed (s8.keep (sc 0 rfl (sc 2 rfl (sc 3 rfl (sc 20 rfl (sc 21 rfl (sc 22 rfl (sc 23 rfl sn)))))))) (by kernel_rfl) (by kernel_rfl) (cc rfl (p_index ix_45 ea g0 (od rfl id) (od rfl id))
          (cc rfl (p_load Try.underlying36 rfl sz_36 g0 (od rfl id))
          (ca rfl (m_alloc al_36 nu39) cn))) (by kernel_rfl) (ss rfl rfl rfl rfl puts_st sz_36 rfl rfl ss0) fun a9 w9 b9 s9 => ?_
      have z9 := z8.trans (b9.mono z8.size)
      refine flowT (s9.keep (sc 0 rfl (sc 2 rfl (sc 3 rfl (sc 5 rfl (sc 20 rfl (sc 21 rfl (sc 22 rfl (sc 23 rfl (sc 24 rfl (sc 25 rfl sn))))))))))) (by kernel_rfl) (cc rfl (p_move g0 (od rfl id))
          (cc rfl (p_load Try.underlying36 rfl sz_36 g0 (od rfl id))
          (cc rfl (p_call 36 g0 (ox (od rfl id) ox0) (fun _ _ => by kernel_rfl) f36)
          (cc rfl (p_call 37 g0 (ox (od rfl id) (ox (od rfl id) ox0)) (fun _ _ => by kernel_rfl) (f37b (by omega) (by decide)))
          (cc rfl (p_assign g0 (od rfl id)) cn))))) fun a10 w10 b10 s10 => ?_
      have z10 := z9.trans (b10.mono z9.size)
      have s10 := s10.more 3 (y := .by (labsB (l.take (i + 1)))) (by rw [labsB_take ea]; exact s10.get 3 rfl)
      refine flowT (s10.keep (sc 0 rfl (sc 2 rfl (sc 3 rfl (sc 5 rfl (sc 20 rfl (sc 21 rfl (sc 22 rfl (sc 23 rfl (sc 24 rfl (sc 25 rfl (sc 26 rfl (sc 27 rfl (sc 28 rfl (sc 29 rfl sn))))))))))))))) (by kernel_rfl) (cc rfl (p_bin g0 (od rfl id) (oc _) (inc_3 (by omega)))
          (cc rfl (p_move g0 (od rfl id)) cn)) fun a11 w11 b11 s11 => ?_
      have z11 := z10.trans (b11.mono z10.size)
      exact ⟨hlt1, s11.to _ ⟨rfl, rfl, rfl, rfl, rfl, rfl, True.intro⟩, z11, True.intro⟩
    · -- false
      obtain rfl : i = l.length := by have := of_decide_eq_false h; (try dsimp only at this); omega
      have s8 := s8.more 3 (y := .by (labsB l)) (by have q := s8.get 3 (y := .by (labsB (l.take l.length))) rfl; rwa [List.take_length] at q)
      refine wp_exit ?_
      refine wp_seq ?_
      refine flowC mixed (s8.keep (sc 0 rfl (sc 2 rfl (sc 3 rfl (sc 20 rfl (sc 21 rfl (sc 22 rfl sn))))))) (by kernel_rfl) (by kernel_rfl) (cc rfl (p_move g0 (od rfl id))
          (cc rfl (p_move g0 (od rfl id))
          (cc rfl (p_len ln_45 g0 (od rfl id))
          (cc rfl (p_call 41 g0 (ox (od rfl id) (ox (od rfl id) ox0)) (fun _ _ => by kernel_rfl) (fn_any (f41 (bs := labsB l) (n := l.length) (labsB_byt l) (by omega) (by omega))))
          (cc rfl (p_move g0 (od rfl id))
          (cc rfl (p_ext0 g0 (od rfl id))
          (cc rfl (p_ext1 g0 (od rfl id))
          (cc rfl (p_assign g0 (od rfl id))
          (cc rfl (p_assign g0 (od rfl id)) cn))))))))) fun a12 w12 b12 s12 => ?_
      have z12 := z8.trans (b12.mono z8.size)
      have s12 := s12.more 6 (y := .one (Lay.sl rawL) l) (by have q := s12.get 6 (y := .one (Lay.sl rawL) (labsV (labsB l) l.length).1) rfl; rwa [back_1 ht] at q)
      have s12 := s12.more 7 (y := .int .i64 0) (int_as (s12.get 7 rfl) (by rw [back_1 ht]))
      refine wp_seq ?_
      refine wp_seq ?_
      refine flowC mixed (s12.keep (sc 0 rfl (sc 2 rfl (sc 3 rfl (sc 6 rfl (sc 7 rfl (sc 20 rfl (sc 21 rfl (sc 22 rfl sn))))))))) (by kernel_rfl) (by kernel_rfl) (cc rfl (p_move g0 (od rfl id))
          (cc rfl (p_bin g0 (od rfl id) (oc _) b_neq_47)
          (cc rfl (p_move g0 (od rfl id))
          (cc rfl (p_move (g1 rfl rfl) (od rfl (fun _ => rfl)))
          (cc rfl (p_len ln_46 (g1 rfl rfl) (od rfl id))
          (cc rfl (p_move (g1 rfl rfl) (od rfl (fun _ => rfl)))
          (cc rfl (p_len ln_45 (g1 rfl rfl) (od rfl id))
          (cc rfl (p_bin (g1 rfl rfl) (od rfl id) (od rfl id) b_neq_3)
          (cc rfl (p_or g0 (od rfl id) (od rfl id)) cn))))))))) fun a13 w13 b13 s13 => ?_
      have z13 := z12.trans (b13.mono z12.size)
      refine s13.cond 46 rfl (fun h => absurd h (by simp)) fun _ => ?_
      refine wp_skip ?_
      refine wp_seq ?_
      refine wp_seq ?_
      refine flowC mixed (s13.keep (sc 0 rfl (sc 2 rfl (sc 3 rfl (sc 6 rfl (sc 20 rfl (sc 21 rfl (sc 22 rfl sn)))))))) (by kernel_rfl) (by kernel_rfl) (cc rfl (p_move g0 (od rfl id))
          (cc rfl (p_len ln_46 g0 (od rfl id))
          (cc rfl (p_move g0 (oc _)) cn))) fun a14 w14 b14 s14 => ?_
      have z14 := z13.trans (b14.mono z13.size)
      refine wp_block ?_
      refine wp_range l.length 49 (fun i => []) (fun _ _ => True) (s14.keep (sc 49 rfl (sc 0 rfl (sc 2 rfl (sc 3 rfl (sc 20 rfl (sc 21 rfl (sc 22 rfl (sc 47 rfl (sc 48 rfl sn)))))))))) z14 True.intro fun i a15 w15 hi2 s15 z15 x15 => ?_
      refine wp_seq ?_
      refine flowC mixed (s15.keep (sc 0 rfl (sc 2 rfl (sc 3 rfl (sc 20 rfl (sc 21 rfl (sc 22 rfl (sc 47 rfl (sc 48 rfl (sc 49 rfl sn)))))))))) (by kernel_rfl) (by kernel_rfl) (cc rfl (p_bin g0 (od rfl id) (od rfl id) b_lss_3) cn) fun a16 w16 b16 s16 => ?_
      have z16 := z15.trans (b16.mono z15.size)
      refine wp_seq ?_
      refine s16.cond 50 rfl (fun h => ?_) (fun h => ?_)
      · -- true
        have hlt2 : i < l.length := by simpa using h
        obtain ⟨x, ex⟩ : ∃ x, l[i]? = some x := ⟨_, List.getElem?_eq_getElem hlt2⟩
        have hx12 : OKL x 12 := (hf x (getL ex)).okl
        refine wp_skip ?_
        refine wp_seq ?_
        refine wp_block ?_
        refine wp_seq ?_
        refine flowQ 5 mixed (s16.keep (sc 0 rfl (sc 2 rfl (sc 3 rfl (sc 20 rfl (sc 21 rfl (sc 22 rfl (sc 47 rfl (sc 48 rfl (sc 49 rfl (sc 50 rfl sn))))))))))) (by kernel_rfl) (by kernel_rfl) (cc rfl (p_move g0 (od rfl id))
            (cc rfl (p_index ix_46 ex g0 (od rfl id) (od rfl id))
            (cc rfl (p_load Try.underlying39 rfl sz_39 g0 (od rfl id))
            (ca rfl (m_alloc al_39 nu39)
            (cc rfl (p_assign g0 (od rfl id)) cn))))) (by kernel_rfl) (ss rfl rfl rfl rfl puts_st sz_39 rfl rfl ss0) fun a17 w17 b17 s17 => ?_
        have z17 := z16.trans (b17.mono z16.size)
        refine wp_seq ?_
        refine flowC mixed (s17.keep (sc 0 rfl (sc 2 rfl (sc 3 rfl (sc 8 rfl (sc 9 rfl (sc 20 rfl (sc 21 rfl (sc 22 rfl (sc 47 rfl (sc 48 rfl (sc 49 rfl (sc 50 rfl (sc 51 rfl (sc 52 rfl (sc 53 rfl sn)))))))))))))))) (by kernel_rfl) (by kernel_rfl) (cc rfl (p_load Try.underlying39 rfl sz_39 g0 (od rfl id))
            (cc rfl (p_move g0 (od rfl id))
            (cc rfl (p_move g0 (od rfl id))
            (cc rfl (p_index ix_45 ex g0 (od rfl id) (od rfl id))
            (cc rfl (p_load Try.underlying36 rfl sz_36 g0 (od rfl id))
            (cc rfl (p_call 36 g0 (ox (od rfl id) ox0) (fun _ _ => by kernel_rfl) f36)
            (cc rfl (p_call 38 g0 (ox (od rfl id) (ox (od rfl id) ox0)) (fun _ _ => by kernel_rfl) (f38b hx12))
            (cc rfl (p_not g0 (od rfl id)) cn)))))))) fun a18 w18 b18 s18 => ?_
        have z18 := z17.trans (b18.mono z17.size)
        refine s18.cond 61 rfl (fun h => absurd h (by rw [(sameB_iff x x).2 rfl]; simp)) fun _ => ?_
        refine wp_skip ?_
        refine flowT (s18.keep (sc 0 rfl (sc 2 rfl (sc 3 rfl (sc 8 rfl (sc 9 rfl (sc 20 rfl (sc 21 rfl (sc 22 rfl (sc 47 rfl (sc 48 rfl (sc 49 rfl (sc 50 rfl (sc 51 rfl (sc 52 rfl (sc 53 rfl (sc 54 rfl (sc 55 rfl (sc 56 rfl (sc 57 rfl (sc 58 rfl (sc 59 rfl (sc 60 rfl (sc 61 rfl sn)))))))))))))))))))))))) (by kernel_rfl) (cc rfl (p_bin g0 (od rfl id) (oc _) (inc_3 (by omega)))
            (cc rfl (p_move g0 (od rfl id)) cn)) fun a19 w19 b19 s19 => ?_
        have z19 := z18.trans (b19.mono z18.size)
        exact ⟨hlt2, s19.to _ ⟨rfl, rfl, rfl, rfl, rfl, rfl, rfl, rfl, rfl, True.intro⟩, z19, True.intro⟩
      · -- false
        obtain rfl : i = l.length := by have := of_decide_eq_false h; (try dsimp only at this); omega
        refine wp_exit ?_
        refine wp_seq ?_
        have s16 := s16.loose
        refine wp_region_lit ?_
        refine chainK 1 (cc rfl (p_move g0 (od rfl id)) cn) (by kernel_rfl) (s16.keep (sc 0 rfl (sc 2 rfl (sc 3 rfl (sc 20 rfl (sc 21 rfl (sc 22 rfl (sc 47 rfl (sc 48 rfl (sc 49 rfl sn)))))))))) fun a20 w20 b20 s20 => ?_
        have z20 := z16.trans (b20.mono z16.size)
        show wpList _ _ _ (_ :: _) _ _
        refine copy0_step byF 64 id s20 rfl rfl (by decide) rfl Try.underlying22 hi0 hz0 hz1 hz2 rfl (by decide) (by decide) rfl (by omega) z20.size fun vc a21 w21 grvc hvc0 b21 s21 => ?_
        have hvc : ∀ x, vc.ownBlock = some x → w.heap.size ≤ x := fun x hx => Nat.le_trans z20.size (hvc0 x hx)
        have z21 := z20.trans (b21.mono z20.size)
        refine chainK 1 (cc rfl (p_lits1 bs_22_1 g0 (oc _)) cn) (by kernel_rfl) s21 fun a22 w22 b22 s22 => ?_
        have z22 := z21.trans (b22.mono z21.size)
        have grvc := grvc.below b22
        have s22 := s22.more 66 (y := .by [0]) ((s22.get 66 rfl).2)
        show wpList _ _ _ (_ :: _) _ _
        refine app_step byF 65 66 id s22 grvc rfl rfl (by decide) rfl Try.underlying22 hi0 hz0 hz1 hz2 rfl (by decide) rfl rfl z22.size (by unfold maxLen; simp only [List.length_singleton]; omega) (by simp only [List.length_singleton]; omega) fun a23 w23 g23 s23 => ?_
        have z23 := z22.grown g23 z22.size fun k e => hvc k e
        refine chainT (t := []) (cc rfl (p_move g0 (od rfl id))
            (cc rfl (p_len ln_45 g0 (od rfl id))
            (cc rfl (p_call 41 g0 (ox (od rfl id) (ox (od rfl id) ox0)) (fun _ _ => by kernel_rfl) (fn_any (f41 (bs := labsB l ++ [0]) (n := l.length) (byt_app (labsB_byt l) (fun x hx => by rw [List.mem_singleton.1 hx]; decide)) (by rw [List.length_append]; simp only [List.length_singleton]; omega) (by omega))))
            (cc rfl (p_move g0 (od rfl id))
            (cc rfl (p_ext0 g0 (od rfl id))
            (cc rfl (p_ext1 g0 (od rfl id))
            (cc rfl (p_assign g0 (od rfl id))
            (cc rfl (p_assign g0 (od rfl id)) cn)))))))) (by kernel_rfl) s23 fun a24 w24 b24 s24 => wpList_done ?_
        have z24 := z23.trans (b24.mono z23.size)
        have s24 := s24.more 11 (y := .int .i64 10) (int_as (s24.get 11 rfl) (back_2 ht))
        refine wp_seq ?_
        refine flowC mixed (s24.keep (sc 0 rfl (sc 2 rfl (sc 3 rfl (sc 11 rfl (sc 20 rfl (sc 21 rfl (sc 22 rfl (sc 47 rfl (sc 48 rfl (sc 49 rfl sn))))))))))) (by kernel_rfl) (by kernel_rfl) (cc rfl (p_move g0 (od rfl id))
            (cc rfl (p_move g0 (od rfl id))
            (cc rfl (p_len ln_45 g0 (od rfl id))
            (cc rfl (p_binE (n' := ((l.length + 1 : Nat) : Int)) (by rw [IntKind.wrap_i64]; omega) g0 (od rfl id) (oc _) b_add_3)
            (cc rfl (p_call 41 g0 (ox (od rfl id) (ox (od rfl id) ox0)) (fun _ _ => by kernel_rfl) (fn_any (f41 (bs := labsB l) (n := l.length + 1) (labsB_byt l) (by omega) (by omega))))
            (cc rfl (p_move g0 (od rfl id))
            (cc rfl (p_ext0 g0 (od rfl id))
            (cc rfl (p_ext1 g0 (od rfl id))
            (cc rfl (p_assign g0 (od rfl id))
            (cc rfl (p_assign g0 (od rfl id)) cn)))))))))) fun a25 w25 b25 s25 => ?_
        have z25 := z24.trans (b25.mono z24.size)
        have s25 := s25.more 13 (y := .int .i64 10) (int_as (s25.get 13 rfl) (back_3 ht))
        refine wp_seq ?_
        refine flowC mixed (s25.keep (sc 0 rfl (sc 2 rfl (sc 3 rfl (sc 11 rfl (sc 13 rfl (sc 20 rfl (sc 21 rfl (sc 22 rfl (sc 47 rfl (sc 48 rfl (sc 49 rfl sn)))))))))))) (by kernel_rfl) (by kernel_rfl) (cc rfl (p_assign g0 (oc _)) cn) fun a26 w26 b26 s26 => ?_
        have z26 := z25.trans (b26.mono z25.size)
        refine wp_seq ?_
        refine wp_seq ?_
        refine flowC mixed (s26.keep (sc 0 rfl (sc 2 rfl (sc 3 rfl (sc 11 rfl (sc 13 rfl (sc 14 rfl (sc 20 rfl (sc 21 rfl (sc 22 rfl (sc 47 rfl (sc 48 rfl (sc 49 rfl sn))))))))))))) (by kernel_rfl) (by kernel_rfl) (cc rfl (p_move g0 (od rfl id))
            (cc rfl (p_len ln_22 g0 (od rfl id))
            (cc rfl (p_bin g0 (od rfl id) (oc _) b_gtr_3) cn))) fun a27 w27 b27 s27 => ?_
        have z27 := z26.trans (b27.mono z26.size)
        refine s27.cond 83 rfl (fun h83 => ?_) (fun h83 => ?_)
        · -- true
          have hp : 0 < (labsB l).length := by have := of_decide_eq_true h83; omega
          refine flowT (s27.keep (sc 0 rfl (sc 2 rfl (sc 3 rfl (sc 11 rfl (sc 13 rfl (sc 14 rfl (sc 20 rfl (sc 21 rfl (sc 22 rfl (sc 47 rfl (sc 48 rfl (sc 49 rfl sn))))))))))))) (by kernel_rfl) (cc rfl (p_move g0 (od rfl id))
              (cc rfl (p_move g0 (od rfl id))
              (cc rfl (p_len ln_22 g0 (od rfl id))
              (cc rfl (p_binE (n' := (((labsB l).length - 1 : Nat) : Int)) (by rw [IntKind.wrap_i64]; omega) g0 (od rfl id) (oc _) b_sub_3)
              (cc rfl (p_slHi (k := (labsB l).length - 1) (by omega) g0 (od rfl id) (od rfl id))
              (cc rfl (p_move g0 (od rfl id))
              (cc rfl (p_len ln_45 g0 (od rfl id))
              (cc rfl (p_call 41 g0 (ox (od rfl id) (ox (od rfl id) ox0)) (fun _ _ => by kernel_rfl) (fn_any (f41 (bs := (labsB l).take ((labsB l).length - 1)) (n := l.length) (byt_take (labsB_byt l) _) (by rw [List.length_take]; omega) (by omega))))
              (cc rfl (p_move g0 (od rfl id))
              (cc rfl (p_ext0 g0 (od rfl id))
              (cc rfl (p_ext1 g0 (od rfl id))
              (cc rfl (p_assign g0 (od rfl id)) cn)))))))))))) fun a28 w28 b28 s28 => ?_
          have z28 := z27.trans (b28.mono z27.size)
          have s28 := s28.more 14 (y := .int .i64 10) (int_as (s28.get 14 rfl) (back_4 ht hp))
          refine wp_seq ?_
          refine flowT (s28.keep (sc 0 rfl (sc 2 rfl (sc 3 rfl (sc 11 rfl (sc 13 rfl (sc 14 rfl (sc 20 rfl (sc 21 rfl (sc 22 rfl (sc 47 rfl (sc 48 rfl (sc 49 rfl sn))))))))))))) (by kernel_rfl) (cc rfl (p_move g0 (od rfl id))
              (cc rfl (p_bin g0 (od rfl id) (oc _) b_eql_47)
              (cc rfl (p_move g0 (od rfl id))
              (cc rfl (p_move (g1 rfl rfl) (od rfl (fun _ => rfl)))
              (cc rfl (p_bin (g1 rfl rfl) (od rfl id) (oc _) b_eql_47)
              (cc rfl (p_and g0 (od rfl id) (od rfl id))
              (cc rfl (p_move g0 (od rfl id))
              (cc rfl (p_move (g1 rfl rfl) (od rfl (fun _ => rfl)))
              (cc rfl (p_bin (g1 rfl rfl) (od rfl id) (oc _) b_eql_47)
              (cc rfl (p_and g0 (od rfl id) (od rfl id))
              (cc rfl (p_assign g0 (od rfl id)) cn))))))))))) fun a29 w29 b29 s29 => ?_
          have z29 := z28.trans (b29.mono z28.size)
          exact wp_ret (ret_law (fn := Try.f6) s29 2 rfl rfl rfl z29)
        · -- false
          refine wp_skip ?_
          refine wp_seq ?_
          refine flowT (s27.keep (sc 0 rfl (sc 2 rfl (sc 3 rfl (sc 11 rfl (sc 13 rfl (sc 14 rfl (sc 20 rfl (sc 21 rfl (sc 22 rfl (sc 47 rfl (sc 48 rfl (sc 49 rfl sn))))))))))))) (by kernel_rfl) (cc rfl (p_move g0 (od rfl id))
              (cc rfl (p_bin g0 (od rfl id) (oc _) b_eql_47)
              (cc rfl (p_move g0 (od rfl id))
              (cc rfl (p_move (g1 rfl rfl) (od rfl (fun _ => rfl)))
              (cc rfl (p_bin (g1 rfl rfl) (od rfl id) (oc _) b_eql_47)
              (cc rfl (p_and g0 (od rfl id) (od rfl id))
              (cc rfl (p_move g0 (od rfl id))
              (cc rfl (p_move (g1 rfl rfl) (od rfl (fun _ => rfl)))
              (cc rfl (p_bin (g1 rfl rfl) (od rfl id) (oc _) b_eql_47)
              (cc rfl (p_and g0 (od rfl id) (od rfl id))
              (cc rfl (p_assign g0 (od rfl id)) cn))))))))))) fun a30 w30 b30 s30 => ?_
          have z30 := z27.trans (b30.mono z27.size)
          exact wp_ret (ret_law (fn := Try.f6) s30 2 rfl rfl rfl z30)

set_option maxRecDepth 100000 in
theorem packBack_lifted (os : Os) (started : os.Started) (H : Type) (enc : TypeId × Value → H) :
    ReturnsInHanded {} Try.checked os 6 .any (Rows.packBackSpec.pre6 enc Try.prog Try.f6 Rows.packBackRow.domain false) (Rows.packBackSpec.post enc Try.prog Try.f6 false true false false) := by
  refine lifted_of (C := Try.checked) laidOut own started (by kernel_rfl) Try.func6 rfl Try.underlying4 (by kernel_rfl) rfl
    (fun ds hds => by match ds, hds with | [_], _ => rfl)
    (ChangeSpec.witness6 (enc := enc) (C := Try.checked) false ⟨#[], #[.slice none 0 0], []⟩ 8 (by kernel_rfl) (by kernel_rfl) (by kernel_rfl) (by kernel_rfl)) ?_
  intro w base args ds ps hval0 hA0 hlt
  have hval : ∀ (j : Nat) t v, Try.f6.params[j]? = some t → args[j]? = some v → Value.okWide Try.prog w .any base t v := hval0
  have hA : DataW.TrodAll enc Try.prog w 0 (fun _ => true) true Try.f6.params.toList args.toList ds ps := hA0
  rw [Try.params6] at hA hval
  obtain ⟨v0, vs0, d0, ds0, p0, q0, hargs, rfl, rfl, h0, r0⟩ := trodAll_cons hA
  obtain ⟨rfl, rfl, rfl⟩ := trodAll_nil r0
  obtain rfl : args = #[v0] := by cases args; simp_all
  obtain ⟨x0, o0, s0⟩ := open_sl Try.underlying45 opens_seeds (hval 0 45 v0 rfl rfl) h0 (fun x hx => hlt x (List.mem_append_left _ hx))
  exact packBack_walk w v0 x0 s0

set_option maxRecDepth 100000 in
theorem packBack_facts : joinedFacts Try.pinned.checked.prog 6 Try.f6 Rows.packBackSpec Rows.packBackRow = true := by
  show joinedFacts Try.prog 6 Try.f6 Rows.packBackSpec Rows.packBackRow = true
  unfold joinedFacts
  rw [mayEnter_ok, liftsFinal_ok, make_ok]
  kernel_rfl
theorem packBack_holds : Rows.PackBackSaid :=
  OpenClaim.holds_of_wide 6 Try.f6 rfl rfl rfl rfl rfl rfl rfl ⟨rfl, rfl, rfl, rfl, rfl⟩ rfl rfl rfl rfl rfl (by kernel_rfl) Try.func6 packBack_facts
    (of_decide_eq_true (by kernel_rfl)) (by unfold Func.isWrapper; rw [if_neg (of_decide_eq_false (by kernel_rfl))]; exact ⟨rfl, rfl⟩)
    (fun os started H enc _ => packBack_lifted os started H enc)
#print axioms packBack_holds

end Go.Proofs.Ytihddficgpjgpaa.Y
