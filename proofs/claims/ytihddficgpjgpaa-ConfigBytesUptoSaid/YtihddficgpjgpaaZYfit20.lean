/- Yfit20: the example of the laws on configurations -/
import Derived.Test.YtihddficgpjgpaaZYscr
namespace Go.Proofs.Ytihddficgpjgpaa.Y
open Go.RowKit Go.ChangeShapes Go.WideShapes Go.ChangeAt
set_option maxRecDepth 100000 in
theorem f43  : Fn True Try.prog 43 [] (.bool true) := fn0 fun w F   hF => by
  go_enter Try.func43, Try.ntmps43
  refine wp_seq ?_
  refine flowC mixed (st0 (U := True) (N := 28) (e := []) (F := F) rfl rfl hF True.intro) (by kernel_rfl) (by kernel_rfl) (cc rfl (p_assign g0 (oc _)) cn) fun a1 w1 b1 s1 => ?_
  have z1 := b1
  refine wp_seq ?_
  refine flowC mixed (s1.keep (sc 0 rfl sn)) (by kernel_rfl) (by kernel_rfl) (cc rfl (p_lits3 g0 (oc _) (oc _) (oc _))
      (cc rfl (p_call 98 g0 (ox (od rfl id) ox0) (fun _ _ => by kernel_rfl) f98)
      (cc rfl (p_assign g0 (od rfl id)) cn))) fun a2 w2 b2 s2 => ?_
  have z2 := z1.trans (b2.mono z1.size)
  refine wp_seq ?_
  refine flowT (s2.keep (sc 0 rfl (sc 1 rfl sn))) (by kernel_rfl) (cc rfl (p_move g0 (od rfl id))
      (cc rfl (p_len ln_115 g0 (od rfl id))
      (cc rfl (p_bin g0 (od rfl id) (oc _) b_eql_3)
      (cc rfl (p_move g0 (od rfl id))
      (cc rfl (p_move (g1 rfl rfl) (od rfl (fun _ => rfl)))
      (cc rfl (p_index (i := 0) ix_115 rfl (g1 rfl rfl) (od rfl id) (oc _))
      (cc rfl (p_fieldAddr pt118_0 fa_118_0 (g1 rfl rfl) (od rfl id))
      (cc rfl (p_loadI ld_3 (g1 rfl rfl) (od rfl id))
      (cc rfl (p_bin (g1 rfl rfl) (od rfl id) (oc _) b_eql_3)
      (cc rfl (p_and g0 (od rfl id) (od rfl id))
      (cc rfl (p_move g0 (od rfl id))
      (cc rfl (p_move (g1 rfl rfl) (od rfl (fun _ => rfl)))
      (cc rfl (p_index (i := 0) ix_115 rfl (g1 rfl rfl) (od rfl id) (oc _))
      (cc rfl (p_fieldAddr pt118_2 fa_118_2 (g1 rfl rfl) (od rfl id))
      (cc rfl (p_load1 rfl ld_22 (g1 rfl rfl) (od rfl id))
      (cc rfl (p_len ln_22 (g1 rfl rfl) (od rfl id))
      (cc rfl (p_bin (g1 rfl rfl) (od rfl id) (oc _) b_eql_3)
      (cc rfl (p_and g0 (od rfl id) (od rfl id))
      (cc rfl (p_move g0 (od rfl id))
      (cc rfl (p_bd64 (g1 rfl rfl) (oc _))
      (cc rfl (p_litL bs_53 (g1 rfl rfl) (od rfl id))
      (cc rfl (p_bd59_3 (g1 rfl rfl) (oc _) (oc _) (od rfl id))
      (cc rfl (p_call 46 (g1 rfl rfl) (ox (opd_mono (od rfl id) (y' := .st cfL ⟨1, 1, 0, [(0, 1)], []⟩) (fun ⟨cs, e, h⟩ => ⟨cs, e, cf0_cf h⟩)) ox0) (fun _ _ => by kernel_rfl) (f46 (c := ⟨1, 1, 0, [(0, 1)], []⟩) (by decide) (by decide) (fun o ho => by cases ho)))
      (cc rfl (p_and g0 (od rfl id) (od rfl id))
      (cc rfl (p_assign g0 (od rfl id)) cn))))))))))))))))))))))))) fun a3 w3 b3 s3 => ?_
  have z3 := z2.trans (b3.mono z2.size)
  have s3 := s3.more 0 (y := .bool true) (bool_as (s3.get 0 rfl) (by decide))
  exact wp_ret (ret_tmp (fn := Try.f43) s3 0 rfl rfl (fun _ h => h) z3)
end Go.Proofs.Ytihddficgpjgpaa.Y
