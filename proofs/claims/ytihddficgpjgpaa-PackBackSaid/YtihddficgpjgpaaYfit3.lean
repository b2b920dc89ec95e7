/- Yfit3: the example of the laws on bytes -/
import Derived.Test.YtihddficgpjgpaaYread
namespace Go.Proofs.Ytihddficgpjgpaa.Y
open Go.RowKit Go.ChangeShapes Go.WideShapes Go.ChangeAt

theorem f60r {U : Prop} {d : Int} : Fn U Try.prog 60 [.int .i64 d] (.st rawL ⟨d, []⟩) := fn1 fun w F v1 h1 hF => by
  obtain rfl : v1 = .int .i64 d := h1
  refine (of_any d w).mono ?_
  rintro _ w' ⟨v, rfl, ⟨A, c, rfl, h2, h3⟩, h4⟩
  exact ⟨_, rfl, ⟨_, rfl, [.int .i64 d], [.slice A 0 c], rfl, rfl, A, c, rfl, fun h => absurd h (by simp), h3⟩, h4⟩
set_option maxRecDepth 100000 in
theorem f28  : Fn False Try.prog 28 [] (.bool true) := fn0 fun w F   hF => by
  go_enter Try.func28, Try.ntmps28
  refine wp_seq ?_
  refine flowC mixed (st0 (U := False) (N := 25) (e := []) (F := F) rfl rfl hF True.intro) (by kernel_rfl) (by kernel_rfl) (cc rfl (p_assign g0 (oc _)) cn) fun a1 w1 b1 s1 => ?_
  have z1 := b1
  refine wp_seq ?_
  refine flowC mixed (s1.keep (sc 0 rfl sn)) (by kernel_rfl) (by kernel_rfl) (cc rfl (p_call 60 g0 (ox (oc _) ox0) (fun _ _ => by kernel_rfl) f60r)
      (cc rfl (p_call 37 g0 (ox oc_nil (ox (od rfl id) ox0)) (fun _ _ => by kernel_rfl) (f37n (by simp)))
      (cc rfl (p_assign g0 (od rfl id)) cn))) fun a2 w2 b2 s2 => ?_
  have z2 := z1.trans (b2.mono z1.size)
  refine wp_seq ?_
  refine wp_region_lit ?_
  refine chainK 16 (cc rfl (p_move g0 (od rfl id))
      (cc rfl (p_len ln_22 g0 (od rfl id))
      (cc rfl (p_bin g0 (od rfl id) (oc _) b_eql_3)
      (cc rfl (p_move g0 (od rfl id))
      (cc rfl (p_move (g1 rfl rfl) (od rfl (fun _ => rfl)))
      (cc rfl (p_index (i := 0) ix_22 rfl (g1 rfl rfl) (od rfl id) (oc _))
      (cc rfl (p_loadI ld_5 (g1 rfl rfl) (od rfl id))
      (cc rfl (p_bin (g1 rfl rfl) (od rfl id) (oc _) b_eql_5)
      (cc rfl (p_and g0 (od rfl id) (od rfl id))
      (cc rfl (p_move g0 (od rfl id))
      (cc rfl (p_move (g1 rfl rfl) (od rfl (fun _ => rfl)))
      (cc rfl (p_index (i := 1) ix_22 rfl (g1 rfl rfl) (od rfl id) (oc _))
      (cc rfl (p_loadI ld_5 (g1 rfl rfl) (od rfl id))
      (cc rfl (p_bin (g1 rfl rfl) (od rfl id) (oc _) b_eql_5)
      (cc rfl (p_and g0 (od rfl id) (od rfl id))
      (cc rfl (p_move g0 (od rfl id)) cn)))))))))))))))) (by kernel_rfl) (s2.keep (sc 1 rfl sn)) fun a3 w3 b3 s3 => ?_
  have z3 := z2.trans (b3.mono z2.size)
  have s3 := s3.more 19 (y := .bool true) (bool_as (s3.get 19 rfl) (by kernel_rfl))
  refine chainK 1 (cc rfl (p_call 29 (g1 rfl rfl) (ox oc_nil (ox (oc _) (ox (oc _) ox0))) (fun _ _ => by kernel_rfl) (f29 (n := 2) (by simp) (by decide))) cn) (by kernel_rfl) s3 fun a4 w4 b4 s4 => ?_
  have z4 := z3.trans (b4.mono z3.size)
  have s4 := s4.more 20 (y := .by (Pk.putL 2 258)) (s4.get 20 (y := .by ([] ++ Pk.putL 2 258)) rfl)
  show wpList _ _ _ (_ :: _) _ _
  refine new_on 20 s4 rfl rfl (Eq.trans (s4.wanted (g1 rfl rfl) rfl) rfl) (fun _ _ => by kernel_rfl) rfl (by decide) fun gA a5 w5 rdA hgA0 b5 s5 => ?_
  have hgA := Nat.le_trans z4.size hgA0
  have z5 := z4.trans (b5.mono z4.size)
  show wpList _ _ _ (_ :: _) _ _
  have q21 : a5.tmps.getD 21 undef = .pointer (some ⟨gA, 0, none⟩) := s5.get 21 rfl
  refine rd_on [.tmp 21, .const (.int .i64 2)] s5 (fun _ => .inr rfl) (Eq.trans (s5.wanted (g1 rfl rfl) rfl) rfl) (fun _ _ => by kernel_rfl) rfl (by decide) (show Calls Try.prog 32 #[a5.tmps.getD 21 undef, .int .i64 2] w5 _ from by rw [q21]; exact cNum rdA (Pk.putL_byt 2 258) (by rw [Pk.putL_length]; decide) (n := 2) (by rw [Pk.putL_length]; decide) (by decide) (by decide)) fun a6 w6 rdAx g6 s6 => ?_
  have rdA := rdAx
  have z6 := z5.grown g6 z5.size fun k e => by cases e; exact hgA
  refine chainK 2 (cc rfl (p_bin (g1 rfl rfl) (od rfl (fun _ => rfl)) (oc _) b_eql_23)
      (cc rfl (p_and g0 (od rfl id) (od rfl id)) cn)) (by kernel_rfl) s6 fun a7 w7 b7 s7 => ?_
  have z7 := z6.trans (b7.mono z6.size)
  have rdA := rdA.below b7
  have s7 := s7.more 24 (y := .bool true) (bool_as (s7.get 24 rfl) (by kernel_rfl))
  refine chainT (t := []) (cc rfl (p_assign g0 (od rfl id)) cn) (by kernel_rfl) s7 fun a8 w8 b8 s8 => wpList_done ?_
  have z8 := z7.trans (b8.mono z7.size)
  have rdA := rdA.below b8
  have s8 := (s8.less (F' := F) (fun _ h => .inl h)).more 0 (y := .bool true) (s8.get 0 rfl)
  exact wp_ret (ret_tmp (fn := Try.f28) s8 0 rfl rfl (fun _ h => h) z8)

end Go.Proofs.Ytihddficgpjgpaa.Y
