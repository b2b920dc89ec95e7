/- RulesSeen: who changes what somebody sees is seen by them, at rest, or owns what they don't own, nor have at 3. -/
import Derived.Test.YtihddficgpjgpaaXseed
namespace Go.Proofs.Ytihddficgpjgpaa.X
open Go.RowKit Go.ChangeShapes Go.WideShapes Go.ChangeAt

theorem lv_raise {a : Lab} (g : Good a) (x : Int) : (raiseL a).lv x = turnF 0 5 (a.lv x) := lv_turn 0 5 g x
theorem lv_rest {a : Lab} (g : Good a) (x : Int) : (restL a).lv x = turnF 0 2 (a.lv x) := lv_turn 0 2 g x
theorem trusted_iff {o t : Lab} (ft : Fine t) : trustedB o t = true ↔ ∀ x, t.lv x = 0 → o.lv x = 0 ∨ o.lv x = 4 := by
  unfold trustedB
  rw [List.all_eq_true]
  have hm := mem_owns ft.good (by have := ft.d1; omega)
  constructor
  · intro h x hx
    have := h x ((hm x).2 hx)
    unfold trustP at this
    simp only [Bool.not_eq_true', Bool.and_eq_false_iff, bne_eq_false_iff_eq] at this
    exact this
  · intro h x hx
    have := h x ((hm x).1 hx)
    unfold trustP
    simp only [Bool.not_eq_true', Bool.and_eq_false_iff, bne_eq_false_iff_eq]
    exact this
theorem seen_law {t o s : Lab} (ft : Fine t) (fo : Fine o) (fs : Fine s) (h : (!changeB t o || !readB s o) = false) : (readB s (restL t) || !trustedB s t) = true := by
  have T := ft.good
  have g1 : Good (raiseL t) := good_turn 0 5 T
  have g2 : Good (raiseL s) := good_turn 0 5 fs.good
  have g3 : Good (restL t) := good_turn 0 2 T
  simp only [Bool.or_eq_false_iff, Bool.not_eq_false'] at h
  obtain ⟨h1, h2⟩ := h
  unfold changeB at h1
  rw [Bool.and_eq_true] at h1
  cases ht : trustedB s t with
  | false => simp
  | true =>
    have k := (trusted_iff ft).1 ht
    have k1 := (leqB_iff T fo.good).1 h1.1
    have k2 := (leqB_iff fo.good g2).1 h2
    rw [show readB s (restL t) = true from (leqB_iff g3 g2).2 fun x => ?_]
    · rfl
    have a1 := k1 x
    have a2 := k2 x
    have a3 := k x
    have a4 := ft.lv4 x
    have a5 := fs.lv4 x
    have a6 := fo.lv4 x
    rw [lv_raise fs.good] at a2 ⊢
    rw [lv_rest T]
    unfold turnF at a2 ⊢
    split at a2 <;> repeat' split
    all_goals omega
set_option maxRecDepth 100000 in
theorem rulesSeen_walk (w : World) (v0 : Value) (a b c d : Lab) (h0 : (.st (Lay.arr sdL 4) [a, b, c, d] : Sym).on w noF v0) (fa : Fine a) (fb : Fine b) (fc : Fine c) (_fd : Fine d) : Calls Try.prog 17 #[v0] w fun e w' => e = .returned (.bool true) ∧ Below w.heap.size w w' := by
  go_enter Try.func17, Try.ntmps17
  refine wp_seq ?_
  refine flowC mixed (st0 (U := True) (N := 37) (e := [(0, true, .st (Lay.arr sdL 4) [a, b, c, d])]) (F := noF) rfl rfl (fok_none True w) ⟨⟨rfl, h0⟩, True.intro⟩) (by kernel_rfl) (by kernel_rfl) (cc rfl (p_box bx_74 g0 (od rfl id))
      (cc rfl (p_assign g0 (oc _)) cn)) fun a1 w1 b1 s1 => ?_
  have z1 := b1
  refine wp_seq ?_
  refine wp_seq ?_
  refine flowC mixed (s1.keep (sc 1 rfl (sc 2 rfl sn))) (by kernel_rfl) (by kernel_rfl) (cc rfl (p_call 53 g0 ox0 (fun _ _ => by kernel_rfl) f53t)
      (cc rfl (p_not g0 (od rfl id)) cn)) fun a2 w2 b2 s2 => ?_
  have z2 := z1.trans (b2.mono z1.size)
  refine s2.cond 7 rfl (fun h => absurd h (by decide)) fun _ => ?_
  refine wp_skip ?_
  refine wp_seq ?_
  refine flowV 15 mixed (s2.keep (sc 1 rfl (sc 2 rfl sn))) (by kernel_rfl) (cc rfl (p_indexArr ia_74_0 rfl g0 (od rfl id))
      (cc rfl (p_load Try.underlying36 rfl sz_36 g0 (od rfl id))
      (cc rfl (p_call 36 g0 (ox (od rfl id) ox0) (fun _ _ => by kernel_rfl) f36)
      (cc rfl (p_indexArr ia_74_1 rfl g0 (od rfl id))
      (cc rfl (p_load Try.underlying36 rfl sz_36 g0 (od rfl id))
      (cc rfl (p_call 36 g0 (ox (od rfl id) ox0) (fun _ _ => by kernel_rfl) f36)
      (cc rfl (p_indexArr ia_74_2 rfl g0 (od rfl id))
      (cc rfl (p_load Try.underlying36 rfl sz_36 g0 (od rfl id))
      (cc rfl (p_call 36 g0 (ox (od rfl id) ox0) (fun _ _ => by kernel_rfl) f36)
      (ca rfl (m_alloc al_39 nu39)
      (ca rfl (m_alloc al_39 nu39)
      (ca rfl (m_alloc al_39 nu39)
      (cs rfl
      (cs rfl
      (cs rfl cn))))))))))))))) (sv (m := 12) rfl rfl rfl rfl puts_st sz_39 (puts_nou nul) (sv (m := 13) rfl rfl rfl rfl puts_st sz_39 (puts_nou nul) (sv (m := 14) rfl rfl rfl rfl puts_st sz_39 (puts_nou nul) sv0))) (by kernel_rfl) (by kernel_rfl) (by kernel_rfl) fun a3 w3 b3 s3 => ?_
  have z3 := z2.trans (b3.mono z2.size)
  refine wpList_done ?_
  refine wp_seq ?_
  refine wp_seq ?_
  refine flowC mixed (s3.keep (sc 2 rfl (sc 3 rfl (sc 4 rfl (sc 5 rfl sn))))) (by kernel_rfl) (by kernel_rfl) (cc rfl (p_load Try.underlying39 rfl sz_39 g0 (od rfl id))
      (cc rfl (p_load Try.underlying39 rfl sz_39 g0 (od rfl id))
      (cc rfl (p_call 55 g0 (ox (od rfl id) (ox (od rfl id) ox0)) (fun _ _ => by kernel_rfl) (f55 (by decide) (by decide)))
      (cc rfl (p_not g0 (od rfl id))
      (cc rfl (p_move g0 (od rfl id))
      (cc rfl (p_load Try.underlying39 rfl sz_39 (g1 rfl rfl) (od rfl (fun _ => rfl)))
      (cc rfl (p_load Try.underlying39 rfl sz_39 (g1 rfl rfl) (od rfl (fun _ => rfl)))
      (cc rfl (p_call 62 (g1 rfl rfl) (ox (od rfl id) (ox (od rfl id) ox0)) (fun _ _ => by kernel_rfl) (f62 (by decide) (by decide)))
      (cc rfl (p_not (g1 rfl rfl) (od rfl id))
      (cc rfl (p_or g0 (od rfl id) (od rfl id)) cn)))))))))) fun a4 w4 b4 s4 => ?_
  have z4 := z3.trans (b4.mono z3.size)
  refine s4.cond 26 rfl (fun h26 => ?_) (fun h26 => ?_)
  · -- true
    refine wp_seq ?_
    refine flowT (s4.keep (sc 2 rfl (sc 3 rfl (sc 5 rfl sn)))) (by kernel_rfl) (cc rfl (p_assign g0 (oc _)) cn) fun a5 w5 b5 s5 => ?_
    have z5 := z4.trans (b5.mono z4.size)
    exact wp_ret (ret_law (fn := Try.f17) s5 2 rfl rfl rfl z5)
  · -- false
    refine wp_skip ?_
    refine wp_seq ?_
    refine flowC mixed (s4.keep (sc 3 rfl (sc 5 rfl sn))) (by kernel_rfl) (by kernel_rfl) (cc rfl (p_load Try.underlying39 rfl sz_39 g0 (od rfl id))
        (cc rfl (p_load Try.underlying39 rfl sz_39 g0 (od rfl id))
        (cc rfl (p_call 63 g0 (ox (od rfl id) ox0) (fun _ _ => by kernel_rfl) (f63 (by decide)))
        (cc rfl (p_call 62 g0 (ox (od rfl id) (ox (od rfl id) ox0)) (fun _ _ => by kernel_rfl) (f62 (by decide) (by decide)))
        (cc rfl (p_move g0 (od rfl id))
        (cc rfl (p_load Try.underlying39 rfl sz_39 (g1 rfl rfl) (od rfl (fun _ => rfl)))
        (cc rfl (p_load Try.underlying39 rfl sz_39 (g1 rfl rfl) (od rfl (fun _ => rfl)))
        (cc rfl (p_call 64 (g1 rfl rfl) (ox (od rfl id) (ox (od rfl id) ox0)) (fun _ _ => by kernel_rfl) (f64 (by decide) (by decide)))
        (cc rfl (p_not (g1 rfl rfl) (od rfl id))
        (cc rfl (p_or g0 (od rfl id) (od rfl id))
        (cc rfl (p_assign g0 (od rfl id)) cn))))))))))) fun a6 w6 b6 s6 => ?_
    have z6 := z4.trans (b6.mono z4.size)
    exact wp_ret (ret_law (fn := Try.f17) s6 2 rfl rfl (seen_law fa fb fc h26) z6)

set_option maxRecDepth 100000 in
theorem rulesSeen_lifted (os : Os) (started : os.Started) (H : Type) (enc : TypeId × Value → H) :
    ReturnsInHanded {} Try.checked os 17 .any (Rows.rulesSeenSpec.pre6 enc Try.prog Try.f17 Rows.rulesSeenRow.domain false) (Rows.rulesSeenSpec.post enc Try.prog Try.f17 false true false false) := by
  refine lifted_of (C := Try.checked) laidOut own started (by kernel_rfl) Try.func17 rfl Try.underlying4 (by kernel_rfl) rfl
    (fun ds hds => by match ds, hds with | [_], _ => rfl)
    (ChangeSpec.witness6 (enc := enc) (C := Try.checked) false ⟨#[], #[.agg #[.int .i64 0, .slice none 0 0, .int .i64 0, .slice none 0 0, .int .i64 0, .slice none 0 0, .int .i64 0, .slice none 0 0]], []⟩ 8 (by kernel_rfl) (by kernel_rfl) (by kernel_rfl) (by kernel_rfl)) ?_
  intro w base args ds ps hval0 hA0 hlt
  have hval : ∀ (j : Nat) t v, Try.f17.params[j]? = some t → args[j]? = some v → Value.okWide Try.prog w .any base t v := hval0
  have hA : DataW.TrodAll enc Try.prog w 0 (fun _ => true) true Try.f17.params.toList args.toList ds ps := hA0
  rw [Try.params17] at hA hval
  obtain ⟨v0, vs0, d0, ds0, p0, q0, hargs, rfl, rfl, h0, r0⟩ := trodAll_cons hA
  obtain ⟨rfl, rfl, rfl⟩ := trodAll_nil r0
  obtain rfl : args = #[v0] := by cases args; simp_all
  obtain ⟨x0, o0, s0⟩ := open_st Try.underlying74 rfl opens_seeds4 (hval 0 74 v0 rfl rfl) h0 (fun x hx => hlt x (List.mem_append_left _ hx))
  exact (by obtain ⟨a, b, c, d, rfl, fa, fb, fc, fd⟩ := arr4 s0; exact rulesSeen_walk w v0 a b c d s0 fa fb fc fd)

set_option maxRecDepth 100000 in
theorem rulesSeen_facts : joinedFacts Try.pinned.checked.prog 17 Try.f17 Rows.rulesSeenSpec Rows.rulesSeenRow = true := by
  show joinedFacts Try.prog 17 Try.f17 Rows.rulesSeenSpec Rows.rulesSeenRow = true
  unfold joinedFacts
  rw [mayEnter_ok, liftsFinal_ok, make_ok]
  kernel_rfl
theorem rulesSeen_holds : Rows.RulesSeenSaid :=
  OpenClaim.holds_of_wide 17 Try.f17 rfl rfl rfl rfl rfl rfl rfl ⟨rfl, rfl, rfl, rfl, rfl⟩ rfl rfl rfl rfl rfl (by kernel_rfl) Try.func17 rulesSeen_facts
    (of_decide_eq_true (by kernel_rfl)) (by unfold Func.isWrapper; rw [if_neg (of_decide_eq_false (by kernel_rfl))]; exact ⟨rfl, rfl⟩)
    (fun os started H enc _ => rulesSeen_lifted os started H enc)
#print axioms rulesSeen_holds

end Go.Proofs.Ytihddficgpjgpaa.X
