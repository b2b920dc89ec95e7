/- PackJoins: what two readers read of two texts, one reads of both together. -/
import Derived.Test.YtihddficgpjgpaaYjoin
namespace Go.Proofs.Ytihddficgpjgpaa.Y
open Go.RowKit Go.ChangeShapes Go.WideShapes Go.ChangeAt

set_option maxRecDepth 100000 in
theorem packJoins_walk (w : World) (v0 v1 v2 : Value) (a b : List Int) (q : Int) (hA : Pk.Byt a) (hB : Pk.Byt b) (h0 : (.by a : Sym).on w noF v0) (h1 : (.by b : Sym).on w noF v1) (h2 : (.int .i64 q : Sym).on w noF v2) : Calls Try.prog 5 #[v0, v1, v2] w fun e w' => e = .returned (.bool true) ∧ Below w.heap.size w w' := by
  obtain ⟨i0, hi0, hz0, hz1, hz2⟩ := info_parts Try.info5
  go_enter Try.func5, Try.ntmps5
  refine wp_seq ?_
  refine flowC mixed (st0 (U := False) (N := 105) (e := [(0, true, .by a), (1, true, .by b), (2, true, .int .i64 q)]) (F := noF) rfl rfl (fok_none False w) ⟨⟨rfl, h0⟩, ⟨⟨rfl, h1⟩, ⟨⟨rfl, h2⟩, True.intro⟩⟩⟩) (by kernel_rfl) (by kernel_rfl) (cc rfl (p_assign g0 (oc _)) cn) fun a1 w1 b1 s1 => ?_
  have z1 := b1
  refine wp_seq ?_
  refine wp_seq ?_
  refine flowC mixed (s1.keep (sc 0 rfl (sc 1 rfl (sc 2 rfl (sc 6 rfl sn))))) (by kernel_rfl) (by kernel_rfl) (cc rfl (p_call 28 g0 ox0 (fun _ _ => by kernel_rfl) f28)
      (cc rfl (p_not g0 (od rfl id)) cn)) fun a2 w2 b2 s2 => ?_
  have z2 := z1.trans (b2.mono z1.size)
  refine s2.cond 13 rfl (fun h => absurd h (by decide)) fun _ => ?_
  refine wp_skip ?_
  refine wp_seq ?_
  refine wp_seq ?_
  refine flowC mixed (s2.keep (sc 0 rfl (sc 1 rfl (sc 2 rfl (sc 6 rfl sn))))) (by kernel_rfl) (by kernel_rfl) (cc rfl (p_move g0 (od rfl id))
      (cc rfl (p_len ln_22 g0 (od rfl id))
      (cc rfl (p_bin g0 (od rfl id) (oc _) b_gtr_3)
      (cc rfl (p_move g0 (od rfl id))
      (cc rfl (p_move (g1 rfl rfl) (od rfl (fun _ => rfl)))
      (cc rfl (p_len ln_22 (g1 rfl rfl) (od rfl id))
      (cc rfl (p_bin (g1 rfl rfl) (od rfl id) (oc _) b_gtr_3)
      (cc rfl (p_or g0 (od rfl id) (od rfl id)) cn)))))))) fun a3 w3 b3 s3 => ?_
  have z3 := z2.trans (b3.mono z2.size)
  refine s3.cond 21 rfl (fun h21 => ?_) (fun h21 => ?_)
  · -- true
    refine wp_seq ?_
    refine flowT (s3.keep (sc 0 rfl (sc 1 rfl (sc 2 rfl (sc 6 rfl sn))))) (by kernel_rfl) (cc rfl (p_assign g0 (oc _)) cn) fun a4 w4 b4 s4 => ?_
    have z4 := z3.trans (b4.mono z3.size)
    exact wp_ret (ret_law (fn := Try.f5) s4 6 rfl rfl rfl z4)
  · -- false
    obtain ⟨hla, hlb⟩ := joins_len h21
    refine wp_skip ?_
    refine wp_seq ?_
    refine flowT (s3.keep (sc 0 rfl (sc 1 rfl (sc 2 rfl (sc 6 rfl sn))))) (by kernel_rfl) (cc rfl (p_move g0 (od rfl id))
        (cc rfl (p_bin g0 (od rfl id) (oc _) (b_rem_3 (by decide)))
        (cc rfl (p_bin g0 (od rfl id) (oc _) b_add_3)
        (cc rfl (p_bin g0 (od rfl id) (oc _) (b_rem_3 (by decide)))
        (cc rfl (p_bin g0 (od rfl id) (oc _) b_add_3)
        (cc rfl (p_assign g0 (od rfl id)) cn)))))) fun a5 w5 b5 s5 => ?_
    have z5 := z3.trans (b5.mono z3.size)
    obtain ⟨n, hn1, hn8, en⟩ := eight_is q
    have s5 := s5.more 2 (y := .int .i64 (n : Int)) (int_as (s5.get 2 rfl) en)
    refine wp_seq ?_
    refine wp_region_lit ?_
    refine chainK 1 (cc rfl (p_move g0 (od rfl id)) cn) (by kernel_rfl) (s5.keep (sc 0 rfl (sc 1 rfl (sc 2 rfl (sc 6 rfl sn))))) fun a6 w6 b6 s6 => ?_
    have z6 := z5.trans (b6.mono z5.size)
    show wpList _ _ _ (_ :: _) _ _
    refine new_on 27 s6 rfl rfl (by simp [Region.wanted]) (fun _ _ => by kernel_rfl) rfl (by decide) fun gR a7 w7 rdR hgR0 b7 s7 => ?_
    have hgR := Nat.le_trans z6.size hgR0
    have z7 := z6.trans (b7.mono z6.size)
    refine chainK 1 (cc rfl (p_move g0 (od rfl id)) cn) (by kernel_rfl) s7 fun a8 w8 b8 s8 => ?_
    have z8 := z7.trans (b8.mono z7.size)
    have rdR := rdR.below b8
    show wpList _ _ _ (_ :: _) _ _
    refine new_on 29 s8 rfl rfl (by simp [Region.wanted]) (fun _ _ => by kernel_rfl) rfl (by decide) fun gS a9 w9 rdS hgS0 b9 s9 => ?_
    have hgRgS : gR < gS := Nat.lt_of_lt_of_le rdR.lt hgS0
    have hgS := Nat.le_trans z8.size hgS0
    have z9 := z8.trans (b9.mono z8.size)
    have rdR := rdR.below b9
    refine chainK 1 (cc rfl (p_move g0 (od rfl id)) cn) (by kernel_rfl) s9 fun a10 w10 b10 s10 => ?_
    have z10 := z9.trans (b10.mono z9.size)
    have rdR := rdR.below b10
    have rdS := rdS.below b10
    show wpList _ _ _ (_ :: _) _ _
    refine copy0_step byF 31 id s10 rfl rfl (by decide) rfl Try.underlying22 hi0 hz0 hz1 hz2 rfl (by decide) (by decide) rfl (by omega) z10.size fun vc a11 w11 grvc hvc0 b11 s11 => ?_
    have hgRvc : ∀ x, vc.ownBlock = some x → gR < x := fun x hx => Nat.lt_of_lt_of_le rdR.lt (hvc0 x hx)
    have hgSvc : ∀ x, vc.ownBlock = some x → gS < x := fun x hx => Nat.lt_of_lt_of_le rdS.lt (hvc0 x hx)
    have hvc : ∀ x, vc.ownBlock = some x → w.heap.size ≤ x := fun x hx => Nat.le_trans z10.size (hvc0 x hx)
    have z11 := z10.trans (b11.mono z10.size)
    have rdR := rdR.below b11
    have rdS := rdS.below b11
    refine chainK 1 (cc rfl (p_move g0 (od rfl id)) cn) (by kernel_rfl) s11 fun a12 w12 b12 s12 => ?_
    have z12 := z11.trans (b12.mono z11.size)
    have rdR := rdR.below b12
    have rdS := rdS.below b12
    have grvc := grvc.below b12
    show wpList _ _ _ (_ :: _) _ _
    refine app_step byF 32 33 id s12 grvc rfl rfl (by decide) rfl Try.underlying22 hi0 hz0 hz1 hz2 rfl (by decide) rfl rfl z12.size (by unfold maxLen; omega) (by omega) fun a13 w13 g13 s13 => ?_
    have rdR := rd_grownO rdR g13 hgRvc
    have rdS := rd_grownO rdS g13 hgSvc
    have z13 := z12.grown g13 z12.size fun k e => hvc k e
    show wpList _ _ _ (_ :: _) _ _
    refine new_on 34 s13 rfl rfl (by simp [Region.wanted]) (fun _ _ => by kernel_rfl) rfl (by decide) fun gT a14 w14 rdT hgT0 b14 s14 => ?_
    have hgRgT : gR < gT := Nat.lt_of_lt_of_le rdR.lt hgT0
    have hgSgT : gS < gT := Nat.lt_of_lt_of_le rdS.lt hgT0
    have hgT := Nat.le_trans z13.size hgT0
    have z14 := z13.trans (b14.mono z13.size)
    have rdR := rdR.below b14
    have rdS := rdS.below b14
    refine chainT (t := []) (cc rfl (p_assign g0 (od rfl id))
        (cc rfl (p_assign g0 (od rfl id))
        (cc rfl (p_assign g0 (od rfl id)) cn))) (by kernel_rfl) s14 fun a15 w15 b15 s15 => wpList_done ?_
    have z15 := z14.trans (b15.mono z14.size)
    have rdR := rdR.below b15
    have rdS := rdS.below b15
    have rdT := rdT.below b15
    refine wp_seq ?_
    refine wp_region_lit ?_
    refine chainK 3 (cc rfl (p_move g0 (od rfl id))
        (cc rfl (p_move g0 (od rfl id))
        (cc rfl (p_len ln_22 g0 (od rfl id)) cn))) (by kernel_rfl) (s15.keep (sc 0 rfl (sc 2 rfl (sc 6 rfl (sc 7 rfl (sc 8 rfl (sc 9 rfl sn))))))) fun a16 w16 b16 s16 => ?_
    have z16 := z15.trans (b16.mono z15.size)
    have rdR := rdR.below b16
    have rdS := rdS.below b16
    have rdT := rdT.below b16
    show wpList _ _ _ (_ :: _) _ _
    have q36 : a16.tmps.getD 36 undef = .pointer (some ⟨gR, 0, none⟩) := s16.get 36 rfl
    have q38 : a16.tmps.getD 38 undef = .int .i64 (a.length : Int) := s16.get 38 rfl
    refine rd_take [.tmp 36, .tmp 38] s16 (fun _ => .inl (.inl (.inr rfl))) (by simp [Region.wanted]) (fun _ _ => by kernel_rfl) rfl (by decide) (show Calls Try.prog 35 #[a16.tmps.getD 36 undef, a16.tmps.getD 38 undef] w16 _ from by rw [q36, q38]; exact cTake rdR (by omega) (n := a.length) (by omega)) fun a17 w17 rdRx g17 s17 => ?_
    have rdS := rd_other rdS rdR (by omega) g17
    have rdT := rd_other rdT rdR (by omega) g17
    have rdR := rdRx
    have z17 := z16.grown g17 z16.size fun k e => by cases e; exact hgR
    refine chainK 2 (cc rfl (p_move g0 (od rfl id))
        (cc rfl (p_move g0 (od rfl id)) cn)) (by kernel_rfl) s17 fun a18 w18 b18 s18 => ?_
    have z18 := z17.trans (b18.mono z17.size)
    have rdR := rdR.below b18
    have rdS := rdS.below b18
    have rdT := rdT.below b18
    show wpList _ _ _ (_ :: _) _ _
    have q40 : a18.tmps.getD 40 undef = .pointer (some ⟨gS, 0, none⟩) := s18.get 40 rfl
    have q41 : a18.tmps.getD 41 undef = .int .i64 (n : Int) := s18.get 41 rfl
    refine rd_on [.tmp 40, .tmp 41] s18 (fun _ => .inl (.inr rfl)) (by simp [Region.wanted]) (fun _ _ => by kernel_rfl) rfl (by decide) (show Calls Try.prog 32 #[a18.tmps.getD 40 undef, a18.tmps.getD 41 undef] w18 _ from by rw [q40, q41]; exact cNumX rdS hB (by omega) hn1 hn8) fun a19 w19 rdSx g19 s19 => ?_
    have rdR := rd_other rdR rdS (by omega) g19
    have rdT := rd_other rdT rdS (by omega) g19
    have rdS := rdSx
    have z19 := z18.grown g19 z18.size fun k e => by cases e; exact hgS
    refine chainT (t := []) (cc rfl (p_assign g0 (od rfl id))
        (cc rfl (p_assign g0 (od rfl id)) cn)) (by kernel_rfl) s19 fun a20 w20 b20 s20 => wpList_done ?_
    have z20 := z19.trans (b20.mono z19.size)
    have rdR := rdR.below b20
    have rdS := rdS.below b20
    have rdT := rdT.below b20
    rw [Nat.zero_add] at rdR
    refine wp_seq ?_
    refine wp_seq ?_
    refine wp_region_lit ?_
    refine chainK 4 (cc rfl (p_move g0 (od rfl id))
        (cc rfl (p_move g0 (od rfl id))
        (cc rfl (p_move g0 (od rfl id))
        (cc rfl (p_len ln_22 g0 (od rfl id)) cn)))) (by kernel_rfl) (s20.keep (sc 0 rfl (sc 2 rfl (sc 6 rfl (sc 7 rfl (sc 8 rfl (sc 9 rfl (sc 10 rfl (sc 11 rfl sn))))))))) fun a21 w21 b21 s21 => ?_
    have z21 := z20.trans (b21.mono z20.size)
    have rdR := rdR.below b21
    have rdS := rdS.below b21
    have rdT := rdT.below b21
    show wpList _ _ _ (_ :: _) _ _
    have q44 : a21.tmps.getD 44 undef = .pointer (some ⟨gT, 0, none⟩) := s21.get 44 rfl
    have q46 : a21.tmps.getD 46 undef = .int .i64 (a.length : Int) := s21.get 46 rfl
    refine rd_take [.tmp 44, .tmp 46] s21 (fun _ => .inr rfl) (by simp [Region.wanted]) (fun _ _ => by kernel_rfl) rfl (by decide) (show Calls Try.prog 35 #[a21.tmps.getD 44 undef, a21.tmps.getD 46 undef] w21 _ from by rw [q44, q46]; exact cTake rdT (by rw [List.length_append]; omega) (n := a.length) (by rw [List.length_append]; omega)) fun a22 w22 rdTx g22 s22 => ?_
    have rdR := rd_other rdR rdT (by omega) g22
    have rdS := rd_other rdS rdT (by omega) g22
    have rdT := rdTx
    have z22 := z21.grown g22 z21.size fun k e => by cases e; exact hgT
    rw [Nat.zero_add] at rdT
    refine chainK 3 (cc rfl (p_call 30 g0 (ox (od rfl id) (ox (od rfl id) ox0)) (fun _ _ => by kernel_rfl) (f30 (byt_take (byt_drop hA _) _) (byt_take (byt_drop (byt_app hA hB) _) _)))
        (cc rfl (p_not g0 (od rfl id))
        (cc rfl (p_move g0 (od rfl id)) cn))) (by kernel_rfl) s22 fun a23 w23 b23 s23 => ?_
    have z23 := z22.trans (b23.mono z22.size)
    have rdR := rdR.below b23
    have rdS := rdS.below b23
    have rdT := rdT.below b23
    have s23 := s23.more 50 (y := .bool false) (bool_as (s23.get 50 rfl) (by simp))
    refine chainK 2 (cc rfl (p_move (g1 rfl rfl) (od rfl (fun _ => rfl)))
        (cc rfl (p_move (g1 rfl rfl) (od rfl (fun _ => rfl))) cn)) (by kernel_rfl) s23 fun a24 w24 b24 s24 => ?_
    have z24 := z23.trans (b24.mono z23.size)
    have rdR := rdR.below b24
    have rdS := rdS.below b24
    have rdT := rdT.below b24
    show wpList _ _ _ (_ :: _) _ _
    have q51 : a24.tmps.getD 51 undef = .pointer (some ⟨gT, 0, none⟩) := s24.get 51 rfl
    have q52 : a24.tmps.getD 52 undef = .int .i64 (n : Int) := s24.get 52 rfl
    refine rd_on [.tmp 51, .tmp 52] s24 (fun _ => .inr rfl) (Eq.trans (s24.wanted (g1 rfl rfl) rfl) rfl) (fun _ _ => by kernel_rfl) rfl (by decide) (show Calls Try.prog 32 #[a24.tmps.getD 51 undef, a24.tmps.getD 52 undef] w24 _ from by rw [q51, q52]; exact cNumX rdT (byt_app hA hB) (by rw [List.length_append]; omega) hn1 hn8) fun a25 w25 rdTx g25 s25 => ?_
    have rdR := rd_other rdR rdT (by omega) g25
    have rdS := rd_other rdS rdT (by omega) g25
    have rdT := rdTx
    have z25 := z24.grown g25 z24.size fun k e => by cases e; exact hgT
    refine chainK 4 (cc rfl (p_move (g1 rfl rfl) (od rfl (fun _ => rfl)))
        (cc rfl (p_bin (g1 rfl rfl) (od rfl (fun _ => rfl)) (od rfl id) b_neq_23)
        (cc rfl (p_or g0 (od rfl id) (od rfl id))
        (cc rfl (p_move g0 (od rfl id)) cn)))) (by kernel_rfl) s25 fun a26 w26 b26 s26 => ?_
    have z26 := z25.trans (b26.mono z25.size)
    have rdR := rdR.below b26
    have rdS := rdS.below b26
    have rdT := rdT.below b26
    have s26 := s26.more 57 (y := .bool false) (bool_as (s26.get 57 rfl) (by rw [numX_join]; simp))
    refine chainK 1 (cc rfl (p_move (g1 rfl rfl) (od rfl (fun _ => rfl))) cn) (by kernel_rfl) s26 fun a27 w27 b27 s27 => ?_
    have z27 := z26.trans (b27.mono z26.size)
    have rdR := rdR.below b27
    have rdS := rdS.below b27
    have rdT := rdT.below b27
    show wpList _ _ _ (_ :: _) _ _
    have q58 : a27.tmps.getD 58 undef = .pointer (some ⟨gT, 0, none⟩) := s27.get 58 rfl
    refine rd_on [.tmp 58] s27 (fun _ => .inr rfl) (Eq.trans (s27.wanted (g1 rfl rfl) rfl) rfl) (fun _ _ => by kernel_rfl) rfl (by decide) (show Calls Try.prog 33 #[a27.tmps.getD 58 undef] w27 _ from by rw [q58]; exact cBad rdT) fun a28 w28 rdTx g28 s28 => ?_
    have rdR := rd_other rdR rdT (by omega) g28
    have rdS := rd_other rdS rdT (by omega) g28
    have rdT := rdTx
    have z28 := z27.grown g28 z27.size fun k e => by cases e; exact hgT
    refine chainK 1 (cc rfl (p_move (g1 rfl rfl) (od rfl (fun _ => rfl))) cn) (by kernel_rfl) s28 fun a29 w29 b29 s29 => ?_
    have z29 := z28.trans (b29.mono z28.size)
    have rdR := rdR.below b29
    have rdS := rdS.below b29
    have rdT := rdT.below b29
    show wpList _ _ _ (_ :: _) _ _
    have q60 : a29.tmps.getD 60 undef = .pointer (some ⟨gS, 0, none⟩) := s29.get 60 rfl
    refine rd_on [.tmp 60] s29 (fun _ => .inl (.inr rfl)) (Eq.trans (s29.wanted (g1 rfl rfl) rfl) rfl) (fun _ _ => by kernel_rfl) rfl (by decide) (show Calls Try.prog 33 #[a29.tmps.getD 60 undef] w29 _ from by rw [q60]; exact cBad rdS) fun a30 w30 rdSx g30 s30 => ?_
    have rdR := rd_other rdR rdS (by omega) g30
    have rdT := rd_other rdT rdS (by omega) g30
    have rdS := rdSx
    have z30 := z29.grown g30 z29.size fun k e => by cases e; exact hgS
    refine chainK 3 (cc rfl (p_bin (g1 rfl rfl) (od rfl (fun _ => rfl)) (od rfl (fun _ => rfl)) b_neq_4)
        (cc rfl (p_or g0 (od rfl id) (od rfl id))
        (cc rfl (p_move g0 (od rfl id)) cn))) (by kernel_rfl) s30 fun a31 w31 b31 s31 => ?_
    have z31 := z30.trans (b31.mono z30.size)
    have rdR := rdR.below b31
    have rdS := rdS.below b31
    have rdT := rdT.below b31
    have s31 := s31.more 64 (y := .bool false) (bool_as (s31.get 64 rfl) (by rw [okX_join]; simp))
    refine chainK 1 (cc rfl (p_move (g1 rfl rfl) (od rfl (fun _ => rfl))) cn) (by kernel_rfl) s31 fun a32 w32 b32 s32 => ?_
    have z32 := z31.trans (b32.mono z31.size)
    have rdR := rdR.below b32
    have rdS := rdS.below b32
    have rdT := rdT.below b32
    show wpList _ _ _ (_ :: _) _ _
    have q65 : a32.tmps.getD 65 undef = .pointer (some ⟨gT, 0, none⟩) := s32.get 65 rfl
    refine rd_on [.tmp 65] s32 (fun _ => .inr rfl) (Eq.trans (s32.wanted (g1 rfl rfl) rfl) rfl) (fun _ _ => by kernel_rfl) rfl (by decide) (show Calls Try.prog 34 #[a32.tmps.getD 65 undef] w32 _ from by rw [q65]; exact cRest rdT (by rw [List.length_append]; omega)) fun a33 w33 rdTx g33 s33 => ?_
    have rdR := rd_other rdR rdT (by omega) g33
    have rdS := rd_other rdS rdT (by omega) g33
    have rdT := rdTx
    have z33 := z32.grown g33 z32.size fun k e => by cases e; exact hgT
    refine chainK 1 (cc rfl (p_move (g1 rfl rfl) (od rfl (fun _ => rfl))) cn) (by kernel_rfl) s33 fun a34 w34 b34 s34 => ?_
    have z34 := z33.trans (b34.mono z33.size)
    have rdR := rdR.below b34
    have rdS := rdS.below b34
    have rdT := rdT.below b34
    show wpList _ _ _ (_ :: _) _ _
    have q67 : a34.tmps.getD 67 undef = .pointer (some ⟨gS, 0, none⟩) := s34.get 67 rfl
    refine rd_on [.tmp 67] s34 (fun _ => .inl (.inr rfl)) (Eq.trans (s34.wanted (g1 rfl rfl) rfl) rfl) (fun _ _ => by kernel_rfl) rfl (by decide) (show Calls Try.prog 34 #[a34.tmps.getD 67 undef] w34 _ from by rw [q67]; exact cRest rdS (by omega)) fun a35 w35 rdSx g35 s35 => ?_
    have rdR := rd_other rdR rdS (by omega) g35
    have rdT := rd_other rdT rdS (by omega) g35
    have rdS := rdSx
    have z35 := z34.grown g35 z34.size fun k e => by cases e; exact hgS
    refine chainT (t := []) (cc rfl (p_bin (g1 rfl rfl) (od rfl (fun _ => rfl)) (od rfl (fun _ => rfl)) b_neq_3)
        (cc rfl (p_or g0 (od rfl id) (od rfl id)) cn)) (by kernel_rfl) s35 fun a36 w36 b36 s36 => wpList_done ?_
    have z36 := z35.trans (b36.mono z35.size)
    have rdR := rdR.below b36
    have rdS := rdS.below b36
    have rdT := rdT.below b36
    have s36 := s36.more 70 (y := .bool false) (bool_as (s36.get 70 rfl) (by rw [atX_join]; rfl))
    refine s36.cond 70 rfl (fun h => absurd h (by simp)) fun _ => ?_
    refine wp_skip ?_
    refine wp_seq ?_
    refine wp_seq ?_
    refine wp_region_lit ?_
    refine chainK 1 (cc rfl (p_move g0 (od rfl id)) cn) (by kernel_rfl) (s36.keep (sc 6 rfl (sc 7 rfl (sc 9 rfl sn)))) fun a37 w37 b37 s37 => ?_
    have z37 := z36.trans (b37.mono z36.size)
    have rdR := rdR.below b37
    have rdS := rdS.below b37
    have rdT := rdT.below b37
    show wpList _ _ _ (_ :: _) _ _
    have q71 : a37.tmps.getD 71 undef = .pointer (some ⟨gR, 0, none⟩) := s37.get 71 rfl
    refine rd_on [.tmp 71] s37 (fun _ => .inl (.inl (.inr rfl))) (by simp [Region.wanted]) (fun _ _ => by kernel_rfl) rfl (by decide) (show Calls Try.prog 34 #[a37.tmps.getD 71 undef] w37 _ from by rw [q71]; exact cRest rdR (by omega)) fun a38 w38 rdRx g38 s38 => ?_
    have rdS := rd_other rdS rdR (by omega) g38
    have rdT := rd_other rdT rdR (by omega) g38
    have rdR := rdRx
    have z38 := z37.grown g38 z37.size fun k e => by cases e; exact hgR
    refine chainK 2 (cc rfl (p_bin g0 (od rfl id) (oc _) b_neq_3)
        (cc rfl (p_move g0 (od rfl id)) cn)) (by kernel_rfl) s38 fun a39 w39 b39 s39 => ?_
    have z39 := z38.trans (b39.mono z38.size)
    have rdR := rdR.below b39
    have rdS := rdS.below b39
    have rdT := rdT.below b39
    have s39 := s39.more 74 (y := .bool false) (bool_as (s39.get 74 rfl) (by simp))
    refine chainK 1 (cc rfl (p_move (g1 rfl rfl) (od rfl (fun _ => rfl))) cn) (by kernel_rfl) s39 fun a40 w40 b40 s40 => ?_
    have z40 := z39.trans (b40.mono z39.size)
    have rdR := rdR.below b40
    have rdS := rdS.below b40
    have rdT := rdT.below b40
    show wpList _ _ _ (_ :: _) _ _
    have q75 : a40.tmps.getD 75 undef = .pointer (some ⟨gR, 0, none⟩) := s40.get 75 rfl
    refine rd_on [.tmp 75] s40 (fun _ => .inl (.inl (.inr rfl))) (Eq.trans (s40.wanted (g1 rfl rfl) rfl) rfl) (fun _ _ => by kernel_rfl) rfl (by decide) (show Calls Try.prog 33 #[a40.tmps.getD 75 undef] w40 _ from by rw [q75]; exact cBad rdR) fun a41 w41 rdRx g41 s41 => ?_
    have rdS := rd_other rdS rdR (by omega) g41
    have rdT := rd_other rdT rdR (by omega) g41
    have rdR := rdRx
    have z41 := z40.grown g41 z40.size fun k e => by cases e; exact hgR
    refine chainK 2 (cc rfl (p_or g0 (od rfl id) (od rfl id))
        (cc rfl (p_move g0 (od rfl id)) cn)) (by kernel_rfl) s41 fun a42 w42 b42 s42 => ?_
    have z42 := z41.trans (b42.mono z41.size)
    have rdR := rdR.below b42
    have rdS := rdS.below b42
    have rdT := rdT.below b42
    have s42 := s42.more 78 (y := .bool false) (bool_as (s42.get 78 rfl) (by rfl))
    refine chainK 1 (cc rfl (p_move (g1 rfl rfl) (od rfl (fun _ => rfl))) cn) (by kernel_rfl) s42 fun a43 w43 b43 s43 => ?_
    have z43 := z42.trans (b43.mono z42.size)
    have rdR := rdR.below b43
    have rdS := rdS.below b43
    have rdT := rdT.below b43
    show wpList _ _ _ (_ :: _) _ _
    have q79 : a43.tmps.getD 79 undef = .pointer (some ⟨gR, 0, none⟩) := s43.get 79 rfl
    refine rd_on [.tmp 79, .const (.int .i64 1)] s43 (fun _ => .inl (.inl (.inr rfl))) (Eq.trans (s43.wanted (g1 rfl rfl) rfl) rfl) (fun _ _ => by kernel_rfl) rfl (by decide) (show Calls Try.prog 32 #[a43.tmps.getD 79 undef, .int .i64 1] w43 _ from by rw [q79]; exact cNumF rdR (by omega) (n := 1) (by decide) (by decide) (.inr (by omega))) fun a44 w44 rdRx g44 s44 => ?_
    have rdS := rd_other rdS rdR (by omega) g44
    have rdT := rd_other rdT rdR (by omega) g44
    have rdR := rdRx
    have z44 := z43.grown g44 z43.size fun k e => by cases e; exact hgR
    refine chainK 3 (cc rfl (p_bin (g1 rfl rfl) (od rfl (fun _ => rfl)) (oc _) b_neq_23)
        (cc rfl (p_or g0 (od rfl id) (od rfl id))
        (cc rfl (p_move g0 (od rfl id)) cn))) (by kernel_rfl) s44 fun a45 w45 b45 s45 => ?_
    have z45 := z44.trans (b45.mono z44.size)
    have rdR := rdR.below b45
    have rdS := rdS.below b45
    have rdT := rdT.below b45
    have s45 := s45.more 83 (y := .bool false) (bool_as (s45.get 83 rfl) (by rfl))
    refine chainK 1 (cc rfl (p_move (g1 rfl rfl) (od rfl (fun _ => rfl))) cn) (by kernel_rfl) s45 fun a46 w46 b46 s46 => ?_
    have z46 := z45.trans (b46.mono z45.size)
    have rdR := rdR.below b46
    have rdS := rdS.below b46
    have rdT := rdT.below b46
    show wpList _ _ _ (_ :: _) _ _
    have q84 : a46.tmps.getD 84 undef = .pointer (some ⟨gR, 0, none⟩) := s46.get 84 rfl
    refine rd_on [.tmp 84] s46 (fun _ => .inl (.inl (.inr rfl))) (Eq.trans (s46.wanted (g1 rfl rfl) rfl) rfl) (fun _ _ => by kernel_rfl) rfl (by decide) (show Calls Try.prog 33 #[a46.tmps.getD 84 undef] w46 _ from by rw [q84]; exact cBad rdR) fun a47 w47 rdRx g47 s47 => ?_
    have rdS := rd_other rdS rdR (by omega) g47
    have rdT := rd_other rdT rdR (by omega) g47
    have rdR := rdRx
    have z47 := z46.grown g47 z46.size fun k e => by cases e; exact hgR
    refine chainT (t := []) (cc rfl (p_not (g1 rfl rfl) (od rfl (fun _ => rfl)))
        (cc rfl (p_or g0 (od rfl id) (od rfl id)) cn)) (by kernel_rfl) s47 fun a48 w48 b48 s48 => wpList_done ?_
    have z48 := z47.trans (b48.mono z47.size)
    have rdR := rdR.below b48
    have rdS := rdS.below b48
    have rdT := rdT.below b48
    have s48 := s48.more 87 (y := .bool false) (bool_as (s48.get 87 rfl) (by rfl))
    refine s48.cond 87 rfl (fun h => absurd h (by simp)) fun _ => ?_
    refine wp_skip ?_
    refine wp_seq ?_
    refine wp_region_lit ?_
    refine chainK 1 (cc rfl (p_move g0 (od rfl id)) cn) (by kernel_rfl) (s48.keep (sc 6 rfl (sc 9 rfl sn))) fun a49 w49 b49 s49 => ?_
    have z49 := z48.trans (b49.mono z48.size)
    have rdR := rdR.below b49
    have rdS := rdS.below b49
    have rdT := rdT.below b49
    show wpList _ _ _ (_ :: _) _ _
    have q88 : a49.tmps.getD 88 undef = .pointer (some ⟨gT, 0, none⟩) := s49.get 88 rfl
    refine rd_on [.tmp 88] s49 (fun _ => .inr rfl) (by simp [Region.wanted]) (fun _ _ => by kernel_rfl) rfl (by decide) (show Calls Try.prog 39 #[a49.tmps.getD 88 undef] w49 _ from by rw [q88]; exact cFail rdT) fun a50 w50 rdTx g50 s50 => ?_
    have rdR := rd_other rdR rdT (by omega) g50
    have rdS := rd_other rdS rdT (by omega) g50
    have rdT := rdTx
    have z50 := z49.grown g50 z49.size fun k e => by cases e; exact hgT
    refine wpList_done ?_
    refine wp_seq ?_
    refine wp_region_lit ?_
    refine chainK 1 (cc rfl (p_move g0 (od rfl id)) cn) (by kernel_rfl) (s50.keep (sc 9 rfl sn)) fun a51 w51 b51 s51 => ?_
    have z51 := z50.trans (b51.mono z50.size)
    have rdR := rdR.below b51
    have rdS := rdS.below b51
    have rdT := rdT.below b51
    show wpList _ _ _ (_ :: _) _ _
    have q90 : a51.tmps.getD 90 undef = .pointer (some ⟨gT, 0, none⟩) := s51.get 90 rfl
    refine rd_on [.tmp 90, .const (.int .i64 1)] s51 (fun _ => .inr rfl) (by simp [Region.wanted]) (fun _ _ => by kernel_rfl) rfl (by decide) (show Calls Try.prog 32 #[a51.tmps.getD 90 undef, .int .i64 1] w51 _ from by rw [q90]; exact cNumF rdT (by rw [List.length_append]; omega) (n := 1) (by decide) (by decide) (.inl rfl)) fun a52 w52 rdTx g52 s52 => ?_
    have rdR := rd_other rdR rdT (by omega) g52
    have rdS := rd_other rdS rdT (by omega) g52
    have rdT := rdTx
    have z52 := z51.grown g52 z51.size fun k e => by cases e; exact hgT
    refine chainK 2 (cc rfl (p_bin g0 (od rfl id) (oc _) b_eql_23)
        (cc rfl (p_move g0 (od rfl id)) cn)) (by kernel_rfl) s52 fun a53 w53 b53 s53 => ?_
    have z53 := z52.trans (b53.mono z52.size)
    have rdR := rdR.below b53
    have rdS := rdS.below b53
    have rdT := rdT.below b53
    have s53 := s53.more 93 (y := .bool true) (bool_as (s53.get 93 rfl) (by rfl))
    refine chainK 1 (cc rfl (p_move (g1 rfl rfl) (od rfl (fun _ => rfl))) cn) (by kernel_rfl) s53 fun a54 w54 b54 s54 => ?_
    have z54 := z53.trans (b54.mono z53.size)
    have rdR := rdR.below b54
    have rdS := rdS.below b54
    have rdT := rdT.below b54
    show wpList _ _ _ (_ :: _) _ _
    have q94 : a54.tmps.getD 94 undef = .pointer (some ⟨gT, 0, none⟩) := s54.get 94 rfl
    refine rd_on [.tmp 94, .const (.int .i64 0)] s54 (fun _ => .inr rfl) (Eq.trans (s54.wanted (g1 rfl rfl) rfl) rfl) (fun _ _ => by kernel_rfl) rfl (by decide) (show Calls Try.prog 35 #[a54.tmps.getD 94 undef, .int .i64 0] w54 _ from by rw [q94]; exact cTakeF rdT (by rw [List.length_append]; omega) (n := 0) (.inl rfl)) fun a55 w55 rdTx g55 s55 => ?_
    have rdR := rd_other rdR rdT (by omega) g55
    have rdS := rd_other rdS rdT (by omega) g55
    have rdT := rdTx
    have z55 := z54.grown g55 z54.size fun k e => by cases e; exact hgT
    have s55 := s55.more 95 (y := .by []) (⟨none, 0, by rw [show _ = _ from s55.get 95 rfl]; rfl, fun h => absurd h (by simp), Nat.le_refl _⟩)
    refine chainK 4 (cc rfl (p_len ln_22 (g1 rfl rfl) (od rfl (fun _ => rfl)))
        (cc rfl (p_bin (g1 rfl rfl) (od rfl id) (oc _) b_eql_3)
        (cc rfl (p_and g0 (od rfl id) (od rfl id))
        (cc rfl (p_move g0 (od rfl id)) cn)))) (by kernel_rfl) s55 fun a56 w56 b56 s56 => ?_
    have z56 := z55.trans (b56.mono z55.size)
    have rdR := rdR.below b56
    have rdS := rdS.below b56
    have rdT := rdT.below b56
    have s56 := s56.more 99 (y := .bool true) (bool_as (s56.get 99 rfl) (by rfl))
    refine chainK 1 (cc rfl (p_move (g1 rfl rfl) (od rfl (fun _ => rfl))) cn) (by kernel_rfl) s56 fun a57 w57 b57 s57 => ?_
    have z57 := z56.trans (b57.mono z56.size)
    have rdR := rdR.below b57
    have rdS := rdS.below b57
    have rdT := rdT.below b57
    show wpList _ _ _ (_ :: _) _ _
    have q100 : a57.tmps.getD 100 undef = .pointer (some ⟨gT, 0, none⟩) := s57.get 100 rfl
    refine rd_on [.tmp 100] s57 (fun _ => .inr rfl) (Eq.trans (s57.wanted (g1 rfl rfl) rfl) rfl) (fun _ _ => by kernel_rfl) rfl (by decide) (show Calls Try.prog 40 #[a57.tmps.getD 100 undef] w57 _ from by rw [q100]; exact cLabF rdT (by rw [List.length_append]; omega)) fun a58 w58 rdTx g58 s58 => ?_
    have rdR := rd_other rdR rdT (by omega) g58
    have rdS := rd_other rdS rdT (by omega) g58
    have rdT := rdTx
    have z58 := z57.grown g58 z57.size fun k e => by cases e; exact hgT
    have s58 := s58.more 101 (y := .st rawL ⟨0, []⟩) (⟨[.int .i64 0, .slice none 0 0], s58.get 101 rfl, [_], [_], rfl, rfl, none, 0, rfl, fun h => absurd h (by simp), Nat.le_refl _⟩)
    refine chainK 1 (cc rfl (p_fieldV rfl ptr0 fo_39_0 (g1 rfl rfl) (od rfl (fun _ => rfl))) cn) (by kernel_rfl) s58 fun a59 w59 b59 s59 => ?_
    have z59 := z58.trans (b59.mono z58.size)
    have rdR := rdR.below b59
    have rdS := rdS.below b59
    have rdT := rdT.below b59
    have s59 := s59.more 102 (y := .int .i64 0) (Sym.one_int.1 (s59.get 102 (y := .one (Lay.int .i64) 0) rfl))
    refine chainK 2 (cc rfl (p_bin (g1 rfl rfl) (od rfl (fun _ => rfl)) (oc _) b_eql_3)
        (cc rfl (p_and g0 (od rfl id) (od rfl id)) cn)) (by kernel_rfl) s59 fun a60 w60 b60 s60 => ?_
    have z60 := z59.trans (b60.mono z59.size)
    have rdR := rdR.below b60
    have rdS := rdS.below b60
    have rdT := rdT.below b60
    have s60 := s60.more 104 (y := .bool true) (bool_as (s60.get 104 rfl) (by rfl))
    refine chainT (t := []) (cc rfl (p_assign g0 (od rfl id)) cn) (by kernel_rfl) s60 fun a61 w61 b61 s61 => wpList_done ?_
    have z61 := z60.trans (b61.mono z60.size)
    have rdR := rdR.below b61
    have rdS := rdS.below b61
    have rdT := rdT.below b61
    exact wp_ret (ret_law (fn := Try.f5) s61 6 rfl rfl rfl z61)

set_option maxRecDepth 100000 in
theorem packJoins_lifted (os : Os) (started : os.Started) (H : Type) (enc : TypeId × Value → H) :
    ReturnsInHanded {} Try.checked os 5 .any (Rows.packJoinsSpec.pre6 enc Try.prog Try.f5 Rows.packJoinsRow.domain false) (Rows.packJoinsSpec.post enc Try.prog Try.f5 false true false false) := by
  refine lifted_of (C := Try.checked) laidOut own started (by kernel_rfl) Try.func5 rfl Try.underlying4 (by kernel_rfl) rfl
    (fun ds hds => by match ds, hds with | [_, _, _], _ => rfl)
    (ChangeSpec.witness6 (enc := enc) (C := Try.checked) false ⟨#[], #[.slice none 0 0, .slice none 0 0, .int .i64 0], []⟩ 8 (by kernel_rfl) (by kernel_rfl) (by kernel_rfl) (by kernel_rfl)) ?_
  intro w base args ds ps hval0 hA0 hlt
  have hval : ∀ (j : Nat) t v, Try.f5.params[j]? = some t → args[j]? = some v → Value.okWide Try.prog w .any base t v := hval0
  have hA : DataW.TrodAll enc Try.prog w 0 (fun _ => true) true Try.f5.params.toList args.toList ds ps := hA0
  rw [Try.params5] at hA hval
  obtain ⟨v0, vs0, d0, ds0, p0, q0, hargs, rfl, rfl, h0, r0⟩ := trodAll_cons hA
  obtain ⟨v1, vs1, d1, ds1, p1, q1, rfl, rfl, rfl, h1, r1⟩ := trodAll_cons r0
  obtain ⟨v2, vs2, d2, ds2, p2, q2, rfl, rfl, rfl, h2, r2⟩ := trodAll_cons r1
  obtain ⟨rfl, rfl, rfl⟩ := trodAll_nil r2
  obtain rfl : args = #[v0, v1, v2] := by cases args; simp_all
  obtain ⟨x0, o0, s0⟩ := open_sl Try.underlying22 opens_bytes (hval 0 22 v0 rfl rfl) h0 (fun x hx => hlt x (List.mem_append_left _ hx))
  obtain ⟨x1, o1, s1⟩ := open_sl Try.underlying22 opens_bytes (hval 1 22 v1 rfl rfl) h1 (fun x hx => hlt x (List.mem_append_right _ (List.mem_append_left _ hx)))
  obtain ⟨x2, rfl, rfl, rfl, o2⟩ := open_int Try.underlying3 (hval 2 3 v2 rfl rfl) h2
  exact packJoins_walk w v0 v1 _ x0 x1 _ (byt_wf o0.2) (byt_wf o1.2) s0 s1 rfl

set_option maxRecDepth 100000 in
theorem packJoins_facts : joinedFacts Try.pinned.checked.prog 5 Try.f5 Rows.packJoinsSpec Rows.packJoinsRow = true := by
  show joinedFacts Try.prog 5 Try.f5 Rows.packJoinsSpec Rows.packJoinsRow = true
  unfold joinedFacts
  rw [mayEnter_ok, liftsFinal_ok, make_ok]
  kernel_rfl
theorem packJoins_holds : Rows.PackJoinsSaid :=
  OpenClaim.holds_of_wide 5 Try.f5 rfl rfl rfl rfl rfl rfl rfl ⟨rfl, rfl, rfl, rfl, rfl⟩ rfl rfl rfl rfl rfl (by kernel_rfl) Try.func5 packJoins_facts
    (of_decide_eq_true (by kernel_rfl)) (by unfold Func.isWrapper; rw [if_neg (of_decide_eq_false (by kernel_rfl))]; exact ⟨rfl, rfl⟩)
    (fun os started H enc _ => packJoins_lifted os started H enc)
#print axioms packJoins_holds

end Go.Proofs.Ytihddficgpjgpaa.Y
