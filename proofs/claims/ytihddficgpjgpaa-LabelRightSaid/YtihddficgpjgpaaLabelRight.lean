/- LabelRight: a label may be just where the document lets it, whatever its numbers are. -/
import Derived.Test.YtihddficgpjgpaaXseed
namespace Go.Proofs.Ytihddficgpjgpaa.X
open Go.RowKit Go.ChangeShapes Go.WideShapes Go.ChangeAt

theorem le_of_not {n : Nat} (h : decide ((1000 : Int) < (n : Int)) = false) : n ≤ 100000 := by
  simp only [decide_eq_false_iff_not] at h
  omega
set_option maxRecDepth 100000 in
theorem labelRight_walk (w : World) (v0 : Value) (l : Lab) (h0 : (.st rawL l : Sym).on w noF v0) : Calls Try.prog 10 #[v0] w fun e w' => e = .returned (.bool true) ∧ Below w.heap.size w w' := by
  go_enter Try.func10, Try.ntmps10
  refine wp_seq ?_
  refine flowC mixed (st0 (U := True) (N := 14) (e := [(0, true, .st rawL l)]) (F := noF) rfl rfl (fok_none True w) ⟨⟨rfl, h0⟩, True.intro⟩) (by kernel_rfl) (by kernel_rfl) (cc rfl (p_box bx_39 g0 (od rfl id))
      (cc rfl (p_assign g0 (oc _)) cn)) fun a1 w1 b1 s1 => ?_
  have z1 := b1
  refine wp_seq ?_
  refine wp_seq ?_
  refine flowC mixed (s1.keep (sc 1 rfl (sc 2 rfl sn))) (by kernel_rfl) (by kernel_rfl) (cc rfl (p_call 48 g0 ox0 (fun _ _ => by kernel_rfl) f48)
      (cc rfl (p_not g0 (od rfl id)) cn)) fun a2 w2 b2 s2 => ?_
  have z2 := z1.trans (b2.mono z1.size)
  refine s2.cond 4 rfl (fun h => absurd h (by decide)) fun _ => ?_
  refine wp_skip ?_
  refine wp_seq ?_
  refine wp_seq ?_
  refine flowC mixed (s2.keep (sc 1 rfl (sc 2 rfl sn))) (by kernel_rfl) (by kernel_rfl) (cc rfl (p_fieldAddr ptr1 fa_39_1 g0 (od rfl id))
      (cc rfl (p_load1 rfl ld_37 g0 (od rfl id))
      (cc rfl (p_len ln_37 g0 (od rfl id))
      (cc rfl (p_bin g0 (od rfl id) (oc _) b_gtr_3) cn)))) fun a3 w3 b3 s3 => ?_
  have z3 := z2.trans (b3.mono z2.size)
  refine s3.cond 8 rfl (fun h8 => ?_) (fun h8 => ?_)
  · -- true
    refine wp_seq ?_
    refine flowT (s3.keep (sc 1 rfl (sc 2 rfl sn))) (by kernel_rfl) (cc rfl (p_assign g0 (oc _)) cn) fun a4 w4 b4 s4 => ?_
    have z4 := z3.trans (b4.mono z3.size)
    exact wp_ret (ret_law (fn := Try.f10) s4 2 rfl rfl rfl z4)
  · -- false
    refine wp_skip ?_
    refine wp_seq ?_
    refine flowC mixed (s3.keep (sc 1 rfl sn)) (by kernel_rfl) (by kernel_rfl) (cc rfl (p_load Try.underlying39 rfl sz_39 g0 (od rfl id))
        (cc rfl (p_call 49 g0 (ox (od rfl id) ox0) (fun _ _ => by kernel_rfl) (f49r (le_of_not h8)))
        (cc rfl (p_load Try.underlying39 rfl sz_39 g0 (od rfl id))
        (cc rfl (p_call 42 g0 (ox (od rfl id) ox0) (fun _ _ => by kernel_rfl) (fn_any (f42r (le_of_not h8))))
        (cc rfl (p_bin g0 (od rfl id) (od rfl id) b_eql_4)
        (cc rfl (p_assign g0 (od rfl id)) cn)))))) fun a5 w5 b5 s5 => ?_
    have z5 := z3.trans (b5.mono z3.size)
    exact wp_ret (ret_law (fn := Try.f10) s5 2 rfl rfl (by simp) z5)

set_option maxRecDepth 100000 in
theorem labelRight_lifted (os : Os) (started : os.Started) (H : Type) (enc : TypeId × Value → H) :
    ReturnsInHanded {} Try.checked os 10 .any (Rows.labelRightSpec.pre6 enc Try.prog Try.f10 Rows.labelRightRow.domain false) (Rows.labelRightSpec.post enc Try.prog Try.f10 false true false false) := by
  refine lifted_of (C := Try.checked) laidOut own started (by kernel_rfl) Try.func10 rfl Try.underlying4 (by kernel_rfl) rfl
    (fun ds hds => by match ds, hds with | [_], _ => rfl)
    (ChangeSpec.witness6 (enc := enc) (C := Try.checked) false ⟨#[], #[.agg #[.int .i64 0, .slice none 0 0]], []⟩ 8 (by kernel_rfl) (by kernel_rfl) (by kernel_rfl) (by kernel_rfl)) ?_
  intro w base args ds ps hval0 hA0 hlt
  have hval : ∀ (j : Nat) t v, Try.f10.params[j]? = some t → args[j]? = some v → Value.okWide Try.prog w .any base t v := hval0
  have hA : DataW.TrodAll enc Try.prog w 0 (fun _ => true) true Try.f10.params.toList args.toList ds ps := hA0
  rw [Try.params10] at hA hval
  obtain ⟨v0, vs0, d0, ds0, p0, q0, hargs, rfl, rfl, h0, r0⟩ := trodAll_cons hA
  obtain ⟨rfl, rfl, rfl⟩ := trodAll_nil r0
  obtain rfl : args = #[v0] := by cases args; simp_all
  obtain ⟨x0, o0, s0⟩ := open_st Try.underlying39 rfl opens_raw (hval 0 39 v0 rfl rfl) h0 (fun x hx => hlt x (List.mem_append_left _ hx))
  exact labelRight_walk w v0 x0 s0

set_option maxRecDepth 100000 in
theorem labelRight_facts : joinedFacts Try.pinned.checked.prog 10 Try.f10 Rows.labelRightSpec Rows.labelRightRow = true := by
  show joinedFacts Try.prog 10 Try.f10 Rows.labelRightSpec Rows.labelRightRow = true
  unfold joinedFacts
  rw [mayEnter_ok, liftsFinal_ok, make_ok]
  kernel_rfl
theorem labelRight_holds : Rows.LabelRightSaid :=
  OpenClaim.holds_of_wide 10 Try.f10 rfl rfl rfl rfl rfl rfl rfl ⟨rfl, rfl, rfl, rfl, rfl⟩ rfl rfl rfl rfl rfl (by kernel_rfl) Try.func10 labelRight_facts
    (of_decide_eq_true (by kernel_rfl)) (by unfold Func.isWrapper; rw [if_neg (of_decide_eq_false (by kernel_rfl))]; exact ⟨rfl, rfl⟩)
    (fun os started H enc _ => labelRight_lifted os started H enc)
#print axioms labelRight_holds

end Go.Proofs.Ytihddficgpjgpaa.X
