/- Yfit: the example of the laws on maps; what a caller hands in -/
import Derived.Test.YtbeeiecbbmiojaaYadd
import Derived.Test.YtbeeiecbbmiojaaYopen
import Derived.Test.YtbeeiecbbmiojaaHead
namespace Go.Proofs.Ytbeeiecbbmiojaa.Y
open Go.RowKit Go.ChangeShapes Go.WideShapes Go.ChangeAt

theorem bz_a {d : Nat} {t : TypeId} {p : String} {af : Array Edge} {g : Option (Nat × Bool)} : DoneRun Try.prog ⟨some d, .build 69 #[(0, .const (.int .i64 4)), (1, .const (.int .u64 7)), (3, .const (.int .i64 2))], t, p, af, g⟩ (.agg #[.int .i64 4, .int .u64 7, .int .i64 0, .int .i64 2, .bool false]) := fun ev w h => by
  have h1 := h (.int .i64 4)
  have h2 := h (.int .u64 7)
  have h3 := h (.int .i64 2)
  go_simp
theorem bz_b {d : Nat} {t : TypeId} {p : String} {af : Array Edge} {g : Option (Nat × Bool)} : DoneRun Try.prog ⟨some d, .build 69 #[(0, .const (.int .i64 5)), (1, .const (.int .u64 7)), (3, .const (.int .i64 1))], t, p, af, g⟩ (.agg #[.int .i64 5, .int .u64 7, .int .i64 0, .int .i64 1, .bool false]) := fun ev w h => by
  have h1 := h (.int .i64 5)
  have h2 := h (.int .u64 7)
  have h3 := h (.int .i64 1)
  go_simp
theorem oc_nil {e : Env} {c : Bool} : OpdE e c (.const (.slice none 0 0)) (.one (Lay.sl mapL) ([] : List M)) := fun _ _ _ _ _ => nil_one rfl
set_option maxRecDepth 100000 in
theorem f20  : Fn False Try.prog 20 [] (.bool true) := fn0 fun w F   hF => by
  go_enter Try.func20, Try.ntmps20
  refine wp_seq ?_
  refine flowC mixed (st0 (U := False) (N := 37) (e := []) (F := F) rfl rfl hF True.intro) (by kernel_rfl) (by kernel_rfl) (cc rfl (p_assign g0 (oc _)) cn) fun a1 w1 b1 s1 => ?_
  have z1 := b1
  refine wp_seq ?_
  refine flowC mixed (s1.keep (sc 0 rfl sn)) (by kernel_rfl) (by kernel_rfl) (cc rfl (p_done bz_a (y := .st mapL ⟨4, 7, 0, 2, false⟩) (fun _ _ => on_M ⟨4, 7, 0, 2, false⟩) g0)
      (cc rfl (p_call 24 g0 (ox oc_nil (ox (od rfl id) ox0)) (fun _ _ => by kernel_rfl) (f24 (by decide)))
      (cc rfl (p_move g0 (od rfl id))
      (cc rfl (p_ext0 g0 (od rfl id))
      (cc rfl (p_ext1 g0 (od rfl id))
      (cc rfl (p_assign g0 (od rfl id))
      (cc rfl (p_assign g0 (od rfl id)) cn))))))) fun a2 w2 b2 s2 => ?_
  have z2 := z1.trans (b2.mono z1.size)
  refine wp_seq ?_
  refine flowV 7 mixed (s2.keep (sc 0 rfl (sc 1 rfl (sc 2 rfl sn)))) (by kernel_rfl) (cc rfl (p_move g0 (od rfl id))
      (cc rfl (p_call 26 g0 (ox (od rfl id) (ox (oc _) ox0)) (fun _ _ => by kernel_rfl) (f26 (by decide)))
      (cc rfl (p_move g0 (od rfl id))
      (cc rfl (p_ext0 g0 (od rfl id))
      (cc rfl (p_ext1 g0 (od rfl id))
      (ca rfl (m_alloc al_69 (fun h => h.elim))
      (cs rfl cn))))))) (sv (m := 6) rfl rfl rfl rfl puts_st sz_69 (puts_nou (fun h => h.elim)) sv0) (by kernel_rfl) (by kernel_rfl) (by kernel_rfl) fun a3 w3 b3 s3 => ?_
  have z3 := z2.trans (b3.mono z2.size)
  refine chainT (t := []) (cc rfl (p_assign g0 (od rfl id)) cn) (by kernel_rfl) s3 fun a4 w4 b4 s4 => wpList_done ?_
  have z4 := z3.trans (b4.mono z3.size)
  refine wp_seq ?_
  refine flowC mixed (s4.keep (sc 0 rfl (sc 1 rfl (sc 2 rfl (sc 3 rfl (sc 4 rfl sn)))))) (by kernel_rfl) (by kernel_rfl) (cc rfl (p_move g0 (od rfl id))
      (cc rfl (p_done bz_b (y := .st mapL ⟨5, 7, 0, 1, false⟩) (fun _ _ => on_M ⟨5, 7, 0, 1, false⟩) g0)
      (cc rfl (p_call 24 g0 (ox (od rfl id) (ox (od rfl id) ox0)) (fun _ _ => by kernel_rfl) (f24 (by decide)))
      (cc rfl (p_move g0 (od rfl id))
      (cc rfl (p_ext0 g0 (od rfl id))
      (cc rfl (p_ext1 g0 (od rfl id))
      (cc rfl (p_assign g0 (od rfl id))
      (cc rfl (p_assign g0 (od rfl id)) cn)))))))) fun a5 w5 b5 s5 => ?_
  have z5 := z4.trans (b5.mono z4.size)
  refine wp_seq ?_
  refine flowT (s5.keep (sc 0 rfl (sc 2 rfl (sc 3 rfl (sc 4 rfl (sc 6 rfl sn)))))) (by kernel_rfl) (cc rfl (p_move g0 (od rfl id))
      (cc rfl (p_bin g0 (od rfl id) (oc _) b_eql_73)
      (cc rfl (p_move g0 (od rfl id))
      (cc rfl (p_move (g1 rfl rfl) (od rfl (fun _ => rfl)))
      (cc rfl (p_and g0 (od rfl id) (od rfl id))
      (cc rfl (p_move g0 (od rfl id))
      (cc rfl (p_fieldAddr pt69_0 fa_69_0 (g1 rfl rfl) (od rfl (fun _ => rfl)))
      (cc rfl (p_loadI ld_3 (g1 rfl rfl) (od rfl id))
      (cc rfl (p_bin (g1 rfl rfl) (od rfl id) (oc _) b_eql_3)
      (cc rfl (p_and g0 (od rfl id) (od rfl id))
      (cc rfl (p_move g0 (od rfl id))
      (cc rfl (p_move (g1 rfl rfl) (od rfl (fun _ => rfl)))
      (cc rfl (p_bin (g1 rfl rfl) (od rfl id) (oc _) b_eql_73)
      (cc rfl (p_and g0 (od rfl id) (od rfl id))
      (cc rfl (p_assign g0 (od rfl id)) cn))))))))))))))) fun a6 w6 b6 s6 => ?_
  have z6 := z5.trans (b6.mono z5.size)
  have s6 := s6.more 0 (y := .bool true) (bool_as (s6.get 0 rfl) (by kernel_rfl))
  exact wp_ret (ret_tmp (fn := Try.f20) s6 0 rfl rfl (fun _ h => h) z6)
theorem opens_map : Opens Try.prog 69 mapL (fun _ => True) := opens_via (f := fun m : M => (m.pa, m.sg, m.fr, m.nn, m.wr)) (fun x => (⟨x.1, x.2.1, x.2.2.1, x.2.2.2.1, x.2.2.2.2⟩ : M)) (fun _ => rfl) (fun _ _ => True.intro) (opens_struct (fs := [_, _, _, _, _]) Try.underlying69 (by kernel_rfl) (fs_cons rfl (by kernel_rfl) (opens_int Try.underlying3) (fs_cons rfl (by kernel_rfl) (opens_int Try.underlying28) (fs_cons rfl (by kernel_rfl) (opens_int Try.underlying3) (fs_cons rfl (by kernel_rfl) (opens_int Try.underlying3) (fs_last rfl (by kernel_rfl) (opens_bool Try.underlying4)))))))
theorem opens_maps : Opens Try.prog 41 (Lay.sl mapL) (fun l => l.length ≤ maxLen) := opens_mono (fun _ h => h.1) (opens_slice ⟨noM⟩ Try.underlying41 (by kernel_rfl) (by decide) opens_map)

end Go.Proofs.Ytbeeiecbbmiojaa.Y
