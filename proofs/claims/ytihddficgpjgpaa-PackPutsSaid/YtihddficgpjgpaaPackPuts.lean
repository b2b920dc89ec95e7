/- PackPuts: numbers are put behind others, and read back, by their lowest bytes, the highest first; what they are put behind stays. -/
import Derived.Test.YtihddficgpjgpaaYlaw3
namespace Go.Proofs.Ytihddficgpjgpaa.Y
open Go.RowKit Go.ChangeShapes Go.WideShapes Go.ChangeAt

set_option maxRecDepth 100000 in
theorem packPuts_walk (w : World) (v0 v1 v2 : Value) (b : List Int) (q x : Int) (hB : Pk.Byt b) (hx : (Lit.int .u64 x).wf = true) (h0 : (.by b : Sym).on w noF v0) (h1 : (.int .i64 q : Sym).on w noF v1) (h2 : (.int .u64 x : Sym).on w noF v2) : Calls Try.prog 3 #[v0, v1, v2] w fun e w' => e = .returned (.bool true) ∧ Below w.heap.size w w' := by
  obtain ⟨i0, hi0, hz0, hz1, hz2⟩ := info_parts Try.info5
  go_enter Try.func3, Try.ntmps3
  refine wp_seq ?_
  refine flowC mixed (st0 (U := False) (N := 83) (e := [(0, true, .by b), (1, true, .int .i64 q), (2, true, .int .u64 x)]) (F := noF) rfl rfl (fok_none False w) ⟨⟨rfl, h0⟩, ⟨⟨rfl, h1⟩, ⟨⟨rfl, h2⟩, True.intro⟩⟩⟩) (by kernel_rfl) (by kernel_rfl) (cc rfl (p_assign g0 (oc _)) cn) fun a1 w1 b1 s1 => ?_
  have z1 := b1
  refine wp_seq ?_
  refine wp_seq ?_
  refine flowC mixed (s1.keep (sc 0 rfl (sc 1 rfl (sc 2 rfl (sc 6 rfl sn))))) (by kernel_rfl) (by kernel_rfl) (cc rfl (p_call 28 g0 ox0 (fun _ _ => by kernel_rfl) f28)
      (cc rfl (p_not g0 (od rfl id)) cn)) fun a2 w2 b2 s2 => ?_
  have z2 := z1.trans (b2.mono z1.size)
  refine s2.cond 12 rfl (fun h => absurd h (by decide)) fun _ => ?_
  refine wp_skip ?_
  refine wp_seq ?_
  refine wp_seq ?_
  refine flowC mixed (s2.keep (sc 0 rfl (sc 1 rfl (sc 2 rfl (sc 6 rfl sn))))) (by kernel_rfl) (by kernel_rfl) (cc rfl (p_move g0 (od rfl id))
      (cc rfl (p_len ln_22 g0 (od rfl id))
      (cc rfl (p_bin g0 (od rfl id) (oc _) b_gtr_3) cn))) fun a3 w3 b3 s3 => ?_
  have z3 := z2.trans (b3.mono z2.size)
  refine s3.cond 15 rfl (fun h15 => ?_) (fun h15 => ?_)
  · -- true
    refine wp_seq ?_
    refine flowT (s3.keep (sc 0 rfl (sc 1 rfl (sc 2 rfl (sc 6 rfl sn))))) (by kernel_rfl) (cc rfl (p_assign g0 (oc _)) cn) fun a4 w4 b4 s4 => ?_
    have z4 := z3.trans (b4.mono z3.size)
    exact wp_ret (ret_law (fn := Try.f3) s4 6 rfl rfl rfl z4)
  · -- false
    have hl : b.length ≤ 100 := by have := of_decide_eq_false h15; omega
    refine wp_skip ?_
    refine wp_seq ?_
    refine flowT (s3.keep (sc 0 rfl (sc 1 rfl (sc 2 rfl (sc 6 rfl sn))))) (by kernel_rfl) (cc rfl (p_move g0 (od rfl id))
        (cc rfl (p_bin g0 (od rfl id) (oc _) (b_rem_3 (by decide)))
        (cc rfl (p_bin g0 (od rfl id) (oc _) b_add_3)
        (cc rfl (p_bin g0 (od rfl id) (oc _) (b_rem_3 (by decide)))
        (cc rfl (p_bin g0 (od rfl id) (oc _) b_add_3)
        (cc rfl (p_assign g0 (od rfl id)) cn)))))) fun a5 w5 b5 s5 => ?_
    have z5 := z3.trans (b5.mono z3.size)
    obtain ⟨n, hn1, hn8, en⟩ := eight_is q
    have s5 := s5.more 1 (y := .int .i64 (n : Int)) (int_as (s5.get 1 rfl) en)
    refine wp_seq ?_
    refine flowC mixed (s5.keep (sc 0 rfl (sc 1 rfl (sc 2 rfl (sc 6 rfl sn))))) (by kernel_rfl) (by kernel_rfl) (cc rfl (p_move g0 (od rfl id))
        (cc rfl (p_append0 byF Try.underlying22 hi0 hz0 hz1 hz2 rfl (by decide) (by decide) (by omega) g0 (od rfl id))
        (cc rfl (p_assign g0 (od rfl id)) cn))) fun a6 w6 b6 s6 => ?_
    have z6 := z5.trans (b6.mono z5.size)
    refine wp_seq ?_
    refine flowC mixed (s6.keep (sc 0 rfl (sc 1 rfl (sc 2 rfl (sc 6 rfl (sc 7 rfl sn)))))) (by kernel_rfl) (by kernel_rfl) (cc rfl (p_move g0 (od rfl id))
        (cc rfl (p_move g0 (od rfl id))
        (cc rfl (p_move g0 (od rfl id))
        (cc rfl (p_call 29 g0 (ox (od rfl id) (ox (od rfl id) (ox (od rfl id) ox0))) (fun _ _ => by kernel_rfl) (f29 (n := n) (by omega) hn8))
        (cc rfl (p_assign g0 (od rfl id)) cn))))) fun a7 w7 b7 s7 => ?_
    have z7 := z6.trans (b7.mono z6.size)
    refine wp_seq ?_
    refine flowC mixed (s7.keep (sc 0 rfl (sc 1 rfl (sc 2 rfl (sc 6 rfl (sc 7 rfl (sc 8 rfl sn))))))) (by kernel_rfl) (by kernel_rfl) (cc rfl (p_move g0 (od rfl id))
        (cc rfl (p_assign g0 (od rfl id)) cn)) fun a8 w8 b8 s8 => ?_
    have z8 := z7.trans (b8.mono z7.size)
    refine wp_seq ?_
    refine wp_seq ?_
    refine flowC mixed (s8.keep (sc 0 rfl (sc 1 rfl (sc 2 rfl (sc 6 rfl (sc 7 rfl (sc 8 rfl (sc 9 rfl sn)))))))) (by kernel_rfl) (by kernel_rfl) (cc rfl (p_move g0 (od rfl id))
        (cc rfl (p_bin g0 (od rfl id) (oc _) b_lss_3) cn)) fun a9 w9 b9 s9 => ?_
    have z9 := z8.trans (b9.mono z8.size)
    refine s9.cond 29 rfl (fun h29 => ?_) (fun h29 => ?_)
    · -- true
      refine flowT (s9.keep (sc 0 rfl (sc 1 rfl (sc 2 rfl (sc 6 rfl (sc 7 rfl (sc 8 rfl (sc 9 rfl sn)))))))) (by kernel_rfl) (cc rfl (p_move g0 (od rfl id))
          (cc rfl (p_move g0 (od rfl id))
          (cc rfl (p_cvE (n' := (n : Int)) (by rw [IntKind.wrap_u64]; omega) g0 (od rfl id) cv_3_26)
          (cc rfl (p_binE (n' := ((8 * n : Nat) : Int)) (by rw [IntKind.wrap_u64]; omega) g0 (oc _) (od rfl id) b_mul_26)
          (cc rfl (p_bin g0 (oc _) (od rfl id) (b_shl (k := 8 * n) (by have := of_decide_eq_true h29; omega)))
          (cc rfl (p_bin g0 (od rfl id) (oc _) b_sub_23)
          (cc rfl (p_bin g0 (od rfl id) (od rfl id) b_and_23)
          (cc rfl (p_assign g0 (od rfl id)) cn)))))))) fun a10 w10 b10 s10 => ?_
      have z10 := z9.trans (b10.mono z9.size)
      have s10 := s10.more 9 (y := .int .u64 (x % 256 ^ n)) (int_as (s10.get 9 rfl) (want_lt x h29))
      refine wp_seq ?_
      refine flowC mixed (s10.keep (sc 0 rfl (sc 1 rfl (sc 6 rfl (sc 7 rfl (sc 8 rfl (sc 9 rfl sn))))))) (by kernel_rfl) (by kernel_rfl) (cc rfl (p_assign g0 (oc _)) cn) fun a11 w11 b11 s11 => ?_
      have z11 := z10.trans (b11.mono z10.size)
      refine wp_seq ?_
      refine wp_region_lit ?_
      refine chainK 4 (cc rfl (p_move g0 (od rfl id))
          (cc rfl (p_move g0 (od rfl id))
          (cc rfl (p_call 30 g0 (ox (od rfl id) (ox (od rfl id) ox0)) (fun _ _ => by kernel_rfl) (f30 hB hB))
          (cc rfl (p_move g0 (od rfl id)) cn)))) (by kernel_rfl) (s11.keep (sc 0 rfl (sc 1 rfl (sc 7 rfl (sc 8 rfl (sc 9 rfl (sc 10 rfl sn))))))) fun a12 w12 b12 s12 => ?_
      have z12 := z11.trans (b12.mono z11.size)
      have s12 := s12.more 40 (y := .bool true) (bool_as (s12.get 40 rfl) (by simp))
      refine chainK 9 (cc rfl (p_move (g1 rfl rfl) (od rfl (fun _ => rfl)))
          (cc rfl (p_len ln_22 (g1 rfl rfl) (od rfl id))
          (cc rfl (p_move (g1 rfl rfl) (od rfl (fun _ => rfl)))
          (cc rfl (p_len ln_22 (g1 rfl rfl) (od rfl id))
          (cc rfl (p_move (g1 rfl rfl) (od rfl (fun _ => rfl)))
          (cc rfl (p_bin (g1 rfl rfl) (od rfl id) (od rfl id) b_add_3)
          (cc rfl (p_bin (g1 rfl rfl) (od rfl id) (od rfl id) b_eql_3)
          (cc rfl (p_and g0 (od rfl id) (od rfl id))
          (cc rfl (p_move g0 (od rfl id)) cn))))))))) (by kernel_rfl) s12 fun a13 w13 b13 s13 => ?_
      have z13 := z12.trans (b13.mono z12.size)
      have s13 := s13.more 49 (y := .bool true) (bool_as (s13.get 49 rfl) (by rw [puts_len (by omega) hn8]; rfl))
      refine chainK 8 (cc rfl (p_move (g1 rfl rfl) (od rfl (fun _ => rfl)))
          (cc rfl (p_move (g1 rfl rfl) (od rfl (fun _ => rfl)))
          (cc rfl (p_len ln_22 (g1 rfl rfl) (od rfl id))
          (cc rfl (p_slHi (k := b.length) (by simp) (g1 rfl rfl) (od rfl id) (od rfl id))
          (cc rfl (p_move (g1 rfl rfl) (od rfl (fun _ => rfl)))
          (cc rfl (p_call 30 (g1 rfl rfl) (ox (od rfl id) (ox (od rfl id) ox0)) (fun _ _ => by kernel_rfl) (f30 (byt_take (byt_app hB (Pk.putL_byt n x)) _) hB))
          (cc rfl (p_and g0 (od rfl id) (od rfl id))
          (cc rfl (p_move g0 (od rfl id)) cn)))))))) (by kernel_rfl) s13 fun a14 w14 b14 s14 => ?_
      have z14 := z13.trans (b14.mono z13.size)
      have s14 := s14.more 57 (y := .bool true) (bool_as (s14.get 57 rfl) (by simp))
      refine chainK 4 (cc rfl (p_move (g1 rfl rfl) (od rfl (fun _ => rfl)))
          (cc rfl (p_move (g1 rfl rfl) (od rfl (fun _ => rfl)))
          (cc rfl (p_len ln_22 (g1 rfl rfl) (od rfl id))
          (cc rfl (p_slLo (k := b.length) (by simp) (g1 rfl rfl) (od rfl id) (od rfl id)) cn)))) (by kernel_rfl) s14 fun a15 w15 b15 s15 => ?_
      have z15 := z14.trans (b15.mono z14.size)
      have s15 := s15.more 61 (y := .by (Pk.putL n x)) (by have q := s15.get 61 (y := .by ((b ++ Pk.putL n x).drop b.length)) rfl; rwa [List.drop_left] at q)
      show wpList _ _ _ (_ :: _) _ _
      refine new_on 61 s15 rfl rfl (Eq.trans (s15.wanted (g1 rfl rfl) rfl) rfl) (fun _ _ => by kernel_rfl) rfl (by decide) fun gA a16 w16 rdA hgA0 b16 s16 => ?_
      have hgA := Nat.le_trans z15.size hgA0
      have z16 := z15.trans (b16.mono z15.size)
      refine chainK 1 (cc rfl (p_move (g1 rfl rfl) (od rfl (fun _ => rfl))) cn) (by kernel_rfl) s16 fun a17 w17 b17 s17 => ?_
      have z17 := z16.trans (b17.mono z16.size)
      have rdA := rdA.below b17
      show wpList _ _ _ (_ :: _) _ _
      have q62 : a17.tmps.getD 62 undef = .pointer (some ⟨gA, 0, none⟩) := s17.get 62 rfl
      have q63 : a17.tmps.getD 63 undef = .int .i64 n := s17.get 63 rfl
      refine rd_on [.tmp 62, .tmp 63] s17 (fun _ => .inr rfl) (Eq.trans (s17.wanted (g1 rfl rfl) rfl) rfl) (fun _ _ => by kernel_rfl) rfl (by decide) (show Calls Try.prog 32 #[a17.tmps.getD 62 undef, a17.tmps.getD 63 undef] w17 _ from by rw [q62, q63]; exact cNum rdA (Pk.putL_byt n x) (by rw [Pk.putL_length]; omega) (n := n) (by rw [Pk.putL_length]; omega) hn1 hn8) fun a18 w18 rdAx g18 s18 => ?_
      have rdA := rdAx
      have z18 := z17.grown g18 z17.size fun k e => by cases e; exact hgA
      refine chainK 4 (cc rfl (p_move (g1 rfl rfl) (od rfl (fun _ => rfl)))
          (cc rfl (p_bin (g1 rfl rfl) (od rfl (fun _ => rfl)) (od rfl id) b_eql_23)
          (cc rfl (p_and g0 (od rfl id) (od rfl id))
          (cc rfl (p_move g0 (od rfl id)) cn)))) (by kernel_rfl) s18 fun a19 w19 b19 s19 => ?_
      have z19 := z18.trans (b19.mono z18.size)
      have rdA := rdA.below b19
      have s19 := s19.more 68 (y := .bool true) (bool_as (s19.get 68 rfl) (by rw [puts_num]; simp))
      refine chainK 4 (cc rfl (p_move (g1 rfl rfl) (od rfl (fun _ => rfl)))
          (cc rfl (p_call 33 (g1 rfl rfl) (ox (od rfl id) ox0) (fun _ _ => by kernel_rfl) f33n)
          (cc rfl (p_and g0 (od rfl id) (od rfl id))
          (cc rfl (p_move g0 (od rfl id)) cn)))) (by kernel_rfl) s19 fun a20 w20 b20 s20 => ?_
      have z20 := z19.trans (b20.mono z19.size)
      have rdA := rdA.below b20
      have s20 := s20.more 72 (y := .bool true) (s20.get 72 rfl)
      refine chainK 5 (cc rfl (p_move (g1 rfl rfl) (od rfl (fun _ => rfl)))
          (cc rfl (p_call 34 (g1 rfl rfl) (ox (od rfl id) ox0) (fun _ _ => by kernel_rfl) f34n)
          (cc rfl (p_bin (g1 rfl rfl) (od rfl id) (oc _) b_eql_3)
          (cc rfl (p_and g0 (od rfl id) (od rfl id))
          (cc rfl (p_move g0 (od rfl id)) cn))))) (by kernel_rfl) s20 fun a21 w21 b21 s21 => ?_
      have z21 := z20.trans (b21.mono z20.size)
      have rdA := rdA.below b21
      have s21 := s21.more 77 (y := .bool true) (s21.get 77 rfl)
      refine chainK 5 (cc rfl (p_move (g1 rfl rfl) (od rfl (fun _ => rfl)))
          (cc rfl (p_call 35 (g1 rfl rfl) (ox (od rfl id) (ox (oc _) ox0)) (fun _ _ => by kernel_rfl) f35n)
          (cc rfl (p_len ln_22 (g1 rfl rfl) (od rfl id))
          (cc rfl (p_bin (g1 rfl rfl) (od rfl id) (oc _) b_eql_3)
          (cc rfl (p_and g0 (od rfl id) (od rfl id)) cn))))) (by kernel_rfl) s21 fun a22 w22 b22 s22 => ?_
      have z22 := z21.trans (b22.mono z21.size)
      have rdA := rdA.below b22
      have s22 := s22.more 82 (y := .bool true) (s22.get 82 rfl)
      refine chainT (t := []) (cc rfl (p_assign g0 (od rfl id)) cn) (by kernel_rfl) s22 fun a23 w23 b23 s23 => wpList_done ?_
      have z23 := z22.trans (b23.mono z22.size)
      have rdA := rdA.below b23
      exact wp_ret (ret_law (fn := Try.f3) s23 6 rfl rfl rfl z23)
    · -- false
      have s9 := s9.more 9 (y := .int .u64 (x % 256 ^ n)) (int_as (s9.get 9 rfl) (want_8 hx hn8 h29))
      refine wp_skip ?_
      refine wp_seq ?_
      refine flowC mixed (s9.keep (sc 0 rfl (sc 1 rfl (sc 6 rfl (sc 7 rfl (sc 8 rfl (sc 9 rfl sn))))))) (by kernel_rfl) (by kernel_rfl) (cc rfl (p_assign g0 (oc _)) cn) fun a24 w24 b24 s24 => ?_
      have z24 := z9.trans (b24.mono z9.size)
      refine wp_seq ?_
      refine wp_region_lit ?_
      refine chainK 4 (cc rfl (p_move g0 (od rfl id))
          (cc rfl (p_move g0 (od rfl id))
          (cc rfl (p_call 30 g0 (ox (od rfl id) (ox (od rfl id) ox0)) (fun _ _ => by kernel_rfl) (f30 hB hB))
          (cc rfl (p_move g0 (od rfl id)) cn)))) (by kernel_rfl) (s24.keep (sc 0 rfl (sc 1 rfl (sc 7 rfl (sc 8 rfl (sc 9 rfl (sc 10 rfl sn))))))) fun a25 w25 b25 s25 => ?_
      have z25 := z24.trans (b25.mono z24.size)
      have s25 := s25.more 40 (y := .bool true) (bool_as (s25.get 40 rfl) (by simp))
      refine chainK 9 (cc rfl (p_move (g1 rfl rfl) (od rfl (fun _ => rfl)))
          (cc rfl (p_len ln_22 (g1 rfl rfl) (od rfl id))
          (cc rfl (p_move (g1 rfl rfl) (od rfl (fun _ => rfl)))
          (cc rfl (p_len ln_22 (g1 rfl rfl) (od rfl id))
          (cc rfl (p_move (g1 rfl rfl) (od rfl (fun _ => rfl)))
          (cc rfl (p_bin (g1 rfl rfl) (od rfl id) (od rfl id) b_add_3)
          (cc rfl (p_bin (g1 rfl rfl) (od rfl id) (od rfl id) b_eql_3)
          (cc rfl (p_and g0 (od rfl id) (od rfl id))
          (cc rfl (p_move g0 (od rfl id)) cn))))))))) (by kernel_rfl) s25 fun a26 w26 b26 s26 => ?_
      have z26 := z25.trans (b26.mono z25.size)
      have s26 := s26.more 49 (y := .bool true) (bool_as (s26.get 49 rfl) (by rw [puts_len (by omega) hn8]; rfl))
      refine chainK 8 (cc rfl (p_move (g1 rfl rfl) (od rfl (fun _ => rfl)))
          (cc rfl (p_move (g1 rfl rfl) (od rfl (fun _ => rfl)))
          (cc rfl (p_len ln_22 (g1 rfl rfl) (od rfl id))
          (cc rfl (p_slHi (k := b.length) (by simp) (g1 rfl rfl) (od rfl id) (od rfl id))
          (cc rfl (p_move (g1 rfl rfl) (od rfl (fun _ => rfl)))
          (cc rfl (p_call 30 (g1 rfl rfl) (ox (od rfl id) (ox (od rfl id) ox0)) (fun _ _ => by kernel_rfl) (f30 (byt_take (byt_app hB (Pk.putL_byt n x)) _) hB))
          (cc rfl (p_and g0 (od rfl id) (od rfl id))
          (cc rfl (p_move g0 (od rfl id)) cn)))))))) (by kernel_rfl) s26 fun a27 w27 b27 s27 => ?_
      have z27 := z26.trans (b27.mono z26.size)
      have s27 := s27.more 57 (y := .bool true) (bool_as (s27.get 57 rfl) (by simp))
      refine chainK 4 (cc rfl (p_move (g1 rfl rfl) (od rfl (fun _ => rfl)))
          (cc rfl (p_move (g1 rfl rfl) (od rfl (fun _ => rfl)))
          (cc rfl (p_len ln_22 (g1 rfl rfl) (od rfl id))
          (cc rfl (p_slLo (k := b.length) (by simp) (g1 rfl rfl) (od rfl id) (od rfl id)) cn)))) (by kernel_rfl) s27 fun a28 w28 b28 s28 => ?_
      have z28 := z27.trans (b28.mono z27.size)
      have s28 := s28.more 61 (y := .by (Pk.putL n x)) (by have q := s28.get 61 (y := .by ((b ++ Pk.putL n x).drop b.length)) rfl; rwa [List.drop_left] at q)
      show wpList _ _ _ (_ :: _) _ _
      refine new_on 61 s28 rfl rfl (Eq.trans (s28.wanted (g1 rfl rfl) rfl) rfl) (fun _ _ => by kernel_rfl) rfl (by decide) fun gA a29 w29 rdA hgA0 b29 s29 => ?_
      have hgA := Nat.le_trans z28.size hgA0
      have z29 := z28.trans (b29.mono z28.size)
      refine chainK 1 (cc rfl (p_move (g1 rfl rfl) (od rfl (fun _ => rfl))) cn) (by kernel_rfl) s29 fun a30 w30 b30 s30 => ?_
      have z30 := z29.trans (b30.mono z29.size)
      have rdA := rdA.below b30
      show wpList _ _ _ (_ :: _) _ _
      have q62 : a30.tmps.getD 62 undef = .pointer (some ⟨gA, 0, none⟩) := s30.get 62 rfl
      have q63 : a30.tmps.getD 63 undef = .int .i64 n := s30.get 63 rfl
      refine rd_on [.tmp 62, .tmp 63] s30 (fun _ => .inr rfl) (Eq.trans (s30.wanted (g1 rfl rfl) rfl) rfl) (fun _ _ => by kernel_rfl) rfl (by decide) (show Calls Try.prog 32 #[a30.tmps.getD 62 undef, a30.tmps.getD 63 undef] w30 _ from by rw [q62, q63]; exact cNum rdA (Pk.putL_byt n x) (by rw [Pk.putL_length]; omega) (n := n) (by rw [Pk.putL_length]; omega) hn1 hn8) fun a31 w31 rdAx g31 s31 => ?_
      have rdA := rdAx
      have z31 := z30.grown g31 z30.size fun k e => by cases e; exact hgA
      refine chainK 4 (cc rfl (p_move (g1 rfl rfl) (od rfl (fun _ => rfl)))
          (cc rfl (p_bin (g1 rfl rfl) (od rfl (fun _ => rfl)) (od rfl id) b_eql_23)
          (cc rfl (p_and g0 (od rfl id) (od rfl id))
          (cc rfl (p_move g0 (od rfl id)) cn)))) (by kernel_rfl) s31 fun a32 w32 b32 s32 => ?_
      have z32 := z31.trans (b32.mono z31.size)
      have rdA := rdA.below b32
      have s32 := s32.more 68 (y := .bool true) (bool_as (s32.get 68 rfl) (by rw [puts_num]; simp))
      refine chainK 4 (cc rfl (p_move (g1 rfl rfl) (od rfl (fun _ => rfl)))
          (cc rfl (p_call 33 (g1 rfl rfl) (ox (od rfl id) ox0) (fun _ _ => by kernel_rfl) f33n)
          (cc rfl (p_and g0 (od rfl id) (od rfl id))
          (cc rfl (p_move g0 (od rfl id)) cn)))) (by kernel_rfl) s32 fun a33 w33 b33 s33 => ?_
      have z33 := z32.trans (b33.mono z32.size)
      have rdA := rdA.below b33
      have s33 := s33.more 72 (y := .bool true) (s33.get 72 rfl)
      refine chainK 5 (cc rfl (p_move (g1 rfl rfl) (od rfl (fun _ => rfl)))
          (cc rfl (p_call 34 (g1 rfl rfl) (ox (od rfl id) ox0) (fun _ _ => by kernel_rfl) f34n)
          (cc rfl (p_bin (g1 rfl rfl) (od rfl id) (oc _) b_eql_3)
          (cc rfl (p_and g0 (od rfl id) (od rfl id))
          (cc rfl (p_move g0 (od rfl id)) cn))))) (by kernel_rfl) s33 fun a34 w34 b34 s34 => ?_
      have z34 := z33.trans (b34.mono z33.size)
      have rdA := rdA.below b34
      have s34 := s34.more 77 (y := .bool true) (s34.get 77 rfl)
      refine chainK 5 (cc rfl (p_move (g1 rfl rfl) (od rfl (fun _ => rfl)))
          (cc rfl (p_call 35 (g1 rfl rfl) (ox (od rfl id) (ox (oc _) ox0)) (fun _ _ => by kernel_rfl) f35n)
          (cc rfl (p_len ln_22 (g1 rfl rfl) (od rfl id))
          (cc rfl (p_bin (g1 rfl rfl) (od rfl id) (oc _) b_eql_3)
          (cc rfl (p_and g0 (od rfl id) (od rfl id)) cn))))) (by kernel_rfl) s34 fun a35 w35 b35 s35 => ?_
      have z35 := z34.trans (b35.mono z34.size)
      have rdA := rdA.below b35
      have s35 := s35.more 82 (y := .bool true) (s35.get 82 rfl)
      refine chainT (t := []) (cc rfl (p_assign g0 (od rfl id)) cn) (by kernel_rfl) s35 fun a36 w36 b36 s36 => wpList_done ?_
      have z36 := z35.trans (b36.mono z35.size)
      have rdA := rdA.below b36
      exact wp_ret (ret_law (fn := Try.f3) s36 6 rfl rfl rfl z36)

set_option maxRecDepth 100000 in
theorem packPuts_lifted (os : Os) (started : os.Started) (H : Type) (enc : TypeId × Value → H) :
    ReturnsInHanded {} Try.checked os 3 .any (Rows.packPutsSpec.pre6 enc Try.prog Try.f3 Rows.packPutsRow.domain false) (Rows.packPutsSpec.post enc Try.prog Try.f3 false true false false) := by
  refine lifted_of (C := Try.checked) laidOut own started (by kernel_rfl) Try.func3 rfl Try.underlying4 (by kernel_rfl) rfl
    (fun ds hds => by match ds, hds with | [_, _, _], _ => rfl)
    (ChangeSpec.witness6 (enc := enc) (C := Try.checked) false ⟨#[], #[.slice none 0 0, .int .i64 0, .int .u64 0], []⟩ 8 (by kernel_rfl) (by kernel_rfl) (by kernel_rfl) (by kernel_rfl)) ?_
  intro w base args ds ps hval0 hA0 hlt
  have hval : ∀ (j : Nat) t v, Try.f3.params[j]? = some t → args[j]? = some v → Value.okWide Try.prog w .any base t v := hval0
  have hA : DataW.TrodAll enc Try.prog w 0 (fun _ => true) true Try.f3.params.toList args.toList ds ps := hA0
  rw [Try.params3] at hA hval
  obtain ⟨v0, vs0, d0, ds0, p0, q0, hargs, rfl, rfl, h0, r0⟩ := trodAll_cons hA
  obtain ⟨v1, vs1, d1, ds1, p1, q1, rfl, rfl, rfl, h1, r1⟩ := trodAll_cons r0
  obtain ⟨v2, vs2, d2, ds2, p2, q2, rfl, rfl, rfl, h2, r2⟩ := trodAll_cons r1
  obtain ⟨rfl, rfl, rfl⟩ := trodAll_nil r2
  obtain rfl : args = #[v0, v1, v2] := by cases args; simp_all
  obtain ⟨x0, o0, s0⟩ := open_sl Try.underlying22 opens_bytes (hval 0 22 v0 rfl rfl) h0 (fun x hx => hlt x (List.mem_append_left _ hx))
  obtain ⟨x1, rfl, rfl, rfl, o1⟩ := open_int Try.underlying3 (hval 1 3 v1 rfl rfl) h1
  obtain ⟨x2, rfl, rfl, rfl, o2⟩ := open_int Try.underlying23 (hval 2 23 v2 rfl rfl) h2
  exact packPuts_walk w v0 _ _ x0 _ _ (byt_wf o0.2) o2 s0 rfl rfl

set_option maxRecDepth 100000 in
theorem packPuts_facts : joinedFacts Try.pinned.checked.prog 3 Try.f3 Rows.packPutsSpec Rows.packPutsRow = true := by
  show joinedFacts Try.prog 3 Try.f3 Rows.packPutsSpec Rows.packPutsRow = true
  unfold joinedFacts
  rw [mayEnter_ok, liftsFinal_ok, make_ok]
  kernel_rfl
theorem packPuts_holds : Rows.PackPutsSaid :=
  OpenClaim.holds_of_wide 3 Try.f3 rfl rfl rfl rfl rfl rfl rfl ⟨rfl, rfl, rfl, rfl, rfl⟩ rfl rfl rfl rfl rfl (by kernel_rfl) Try.func3 packPuts_facts
    (of_decide_eq_true (by kernel_rfl)) (by unfold Func.isWrapper; rw [if_neg (of_decide_eq_false (by kernel_rfl))]; exact ⟨rfl, rfl⟩)
    (fun os started H enc _ => packPuts_lifted os started H enc)
#print axioms packPuts_holds

end Go.Proofs.Ytihddficgpjgpaa.Y
