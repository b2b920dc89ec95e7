/- ConfigRight: a configuration may be just where the document lets it (second form: where what comes in is of bulk at most 1048576) -/
import Derived.Test.YtihddficgpjgpaaYplb
import Derived.Test.YtihddficgpjgpaaHead
namespace Go.Proofs.Ytihddficgpjgpaa.Y
open Go.RowKit Go.ChangeShapes Go.WideShapes Go.ChangeAt

set_option maxRecDepth 100000 in
theorem configRight_walk (w : World) (v0 : Value) (c : Cf) (h0 : (.st plL c : Sym).on w noF v0) (hC : okCB 1048576 c): Calls Try.prog 8 #[v0] w fun e w' => e = .returned (.bool true) ∧ Below w.heap.size w w' := by
  go_enter Try.func8, Try.ntmps8
  refine wp_seq ?_
  refine flowC mixed (st0 (U := True) (N := 16) (e := [(0, true, .st plL c)]) (F := noF) rfl rfl (fok_none True w) ⟨⟨rfl, h0⟩, True.intro⟩) (by kernel_rfl) (by kernel_rfl) (cc rfl (p_box bx_56 g0 (od rfl id))
      (cc rfl (p_assign g0 (oc _)) cn)) fun a1 w1 b1 s1 => ?_
  have z1 := b1
  refine wp_seq ?_
  refine wp_seq ?_
  refine flowC mixed (s1.keep (sc 1 rfl (sc 2 rfl sn))) (by kernel_rfl) (by kernel_rfl) (cc rfl (p_call 43 g0 ox0 (fun _ _ => by kernel_rfl) f43)
      (cc rfl (p_not g0 (od rfl id)) cn)) fun a2 w2 b2 s2 => ?_
  have z2 := z1.trans (b2.mono z1.size)
  refine s2.cond 5 rfl (fun h => absurd h (by decide)) fun _ => ?_
  refine wp_skip ?_
  refine wp_seq ?_
  refine wp_seq ?_
  refine flowC mixed (s2.keep (sc 1 rfl (sc 2 rfl sn))) (by kernel_rfl) (by kernel_rfl) (cc rfl (p_load Try.underlying56 rfl sz_56 g0 (od rfl id))
      (cc rfl (p_call 44 g0 (ox (od rfl id) ox0) (fun _ _ => by kernel_rfl) (f44 (few_of hC)))
      (cc rfl (p_not g0 (od rfl id)) cn))) fun a3 w3 b3 s3 => ?_
  have z3 := z2.trans (b3.mono z2.size)
  refine s3.cond 8 rfl (fun h8 => ?_) (fun h8 => ?_)
  · -- true
    refine wp_seq ?_
    refine flowT (s3.keep (sc 1 rfl (sc 2 rfl sn))) (by kernel_rfl) (cc rfl (p_assign g0 (oc _)) cn) fun a4 w4 b4 s4 => ?_
    have z4 := z3.trans (b4.mono z3.size)
    exact wp_ret (ret_law (fn := Try.f8) s4 2 rfl rfl rfl z4)
  · -- false
    have hL : lightB c = true := by rw [Bool.not_eq_false'] at h8; exact h8
    obtain ⟨hn1, hn2, hob, hsg⟩ := plan_facts hC hL
    refine wp_skip ?_
    refine wp_seq ?_
    refine flowQ 3 mixed (s3.keep (sc 1 rfl (sc 2 rfl sn))) (by kernel_rfl) (by kernel_rfl) (cc rfl (p_load Try.underlying56 rfl sz_56 g0 (od rfl id))
        (cc rfl (p_call 45 g0 (ox (od rfl id) ox0) (fun _ _ => by kernel_rfl) (f45 hL))
        (ca rfl (m_alloc al_59 nu59) cn))) (by kernel_rfl) (ss rfl rfl rfl rfl puts_st sz_59 rfl rfl ss0) fun a5 w5 b5 s5 => ?_
    have z5 := z3.trans (b5.mono z3.size)
    refine wp_seq ?_
    refine flowC mixed (s5.keep (sc 3 rfl sn)) (by kernel_rfl) (by kernel_rfl) (cc rfl (p_load u_59 ur_59 sz_59 g0 (od rfl id))
        (cc rfl (p_call 46 g0 (ox (od rfl id) ox0) (fun _ _ => by kernel_rfl) (f46 (by omega) (by unfold maxLen; omega) (fun o ho => by have := (hob o ho).1; unfold maxLen; omega)))
        (cc rfl (p_load u_59 ur_59 sz_59 g0 (od rfl id))
        (cc rfl (p_call 47 g0 (ox (od rfl id) ox0) (fun _ _ => by kernel_rfl) (f47 (by omega) (by omega) (fun o ho => by have := (hob o ho).1; unfold maxLen; omega)))
        (cc rfl (p_bin g0 (od rfl id) (od rfl id) b_eql_4)
        (cc rfl (p_assign g0 (od rfl id)) cn)))))) fun a6 w6 b6 s6 => ?_
    have z6 := z5.trans (b6.mono z5.size)
    have s6 := s6.more 2 (y := .bool true) (bool_as (s6.get 2 rfl) (by rw [right_same hsg]; simp))
    exact wp_ret (ret_law (fn := Try.f8) s6 2 rfl rfl rfl z6)

set_option maxRecDepth 100000 in
theorem configRight_lifted (os : Os) (started : os.Started) (H : Type) (enc : TypeId × Value → H) (Fi : Stop.Interp) :
    ReturnsInHanded {} Try.checked os 8 .any ((Rows.OpenSpec.upto Rows.configRightSpec).pre6 enc Try.prog Try.f8 Rows.configRightUptoRow.domain false) (((Rows.OpenSpec.upto Rows.configRightSpec).at Fi).post enc Try.prog Try.f8 false true false false) := by
  refine liftedU_of (C := Try.checked) laidOut own started (by kernel_rfl) Try.func8 rfl Try.underlying4 (by kernel_rfl) rfl
    (fun ds hds => by match ds, hds with | [_], _ => rfl)
    (OpenSpec.witness (enc := enc) (C := Try.checked) (s := Rows.OpenSpec.upto Rows.configRightSpec) (k := Rows.uptoSmall) rfl false ⟨#[], #[.agg #[.int .i64 0, .int .i64 0, .int .i64 0, .slice none 0 0, .slice none 0 0]], []⟩ 8 (by kernel_rfl) (by kernel_rfl) (by kernel_rfl)
      (x := ([.agg [.lit (.int .i64 0), .lit (.int .i64 0), .lit (.int .i64 0), .nil, .nil]], [], [])) (by kernel_rfl) rfl (by kernel_rfl)) ?_
  intro w base args ds ps hval0 hA0 hlt hB
  have hval : ∀ (j : Nat) t v, Try.f8.params[j]? = some t → args[j]? = some v → Value.okWide Try.prog w .any base t v := hval0
  have hA : DataW.TrodAll enc Try.prog w 0 (fun _ => true) true Try.f8.params.toList args.toList ds ps := hA0
  rw [Try.params8] at hA hval
  obtain ⟨v0, vs0, d0, ds0, p0, q0, hargs, rfl, rfl, h0, r0⟩ := trodAll_cons hA
  obtain ⟨rfl, rfl, rfl⟩ := trodAll_nil r0
  obtain rfl : args = #[v0] := by cases args; simp_all
  obtain ⟨x0, o0, s0⟩ := openB_st Try.underlying56 rfl opensB_plan (hval 0 56 v0 rfl rfl) h0 (fun x hx => hlt x (List.mem_append_left _ hx)) (Nat.le_trans (bulk_part (by simp)) hB)
  exact configRight_walk w _ _ s0 o0

set_option maxRecDepth 100000 in
theorem configRight_facts : joinedFacts Try.pinned.checked.prog 8 Try.f8 (Rows.OpenSpec.upto Rows.configRightSpec).bare Rows.configRightUptoRow = true := by
  show joinedFacts Try.prog 8 Try.f8 (Rows.OpenSpec.upto Rows.configRightSpec).bare Rows.configRightUptoRow = true
  unfold joinedFacts
  rw [mayEnter_ok, liftsFinal_ok, make_ok]
  kernel_rfl
theorem configRight_holds : Rows.ConfigRightUptoSaid :=
  OpenClaim.holds_of_cond 8 Try.f8 rfl rfl rfl rfl rfl rfl rfl ⟨rfl, rfl, rfl, rfl, rfl⟩ rfl rfl rfl rfl rfl (by kernel_rfl) Try.func8 configRight_facts
    (of_decide_eq_true (by kernel_rfl)) (by unfold Func.isWrapper; rw [if_neg (of_decide_eq_false (by kernel_rfl))]; exact ⟨rfl, rfl⟩)
    (fun os started H enc _ Fi => configRight_lifted os started H enc Fi)
#print axioms configRight_holds

end Go.Proofs.Ytihddficgpjgpaa.Y
