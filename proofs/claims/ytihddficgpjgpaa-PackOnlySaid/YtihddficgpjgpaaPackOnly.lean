/- PackOnly: any bytes tell labels just if they are these labels' own bytes -/
import Derived.Test.YtihddficgpjgpaaYonly
namespace Go.Proofs.Ytihddficgpjgpaa.Y
open Go.RowKit Go.ChangeShapes Go.WideShapes Go.ChangeAt

set_option maxRecDepth 100000 in
theorem packOnly_walk (w : World) (v0 v1 : Value) (b : List Int) (q : Int) (hB : Pk.Byt b) (h0 : (.by b : Sym).on w noF v0) (h1 : (.int .i64 q : Sym).on w noF v1) : Calls Try.prog 7 #[v0, v1] w fun e w' => e = .returned (.bool true) ∧ Below w.heap.size w w' := by
  go_enter Try.func7, Try.ntmps7
  refine wp_seq ?_
  refine flowC mixed (st0 (U := False) (N := 54) (e := [(0, true, .by b), (1, true, .int .i64 q)]) (F := noF) rfl rfl (fok_none False w) ⟨⟨rfl, h0⟩, ⟨⟨rfl, h1⟩, True.intro⟩⟩) (by kernel_rfl) (by kernel_rfl) (cc rfl (p_assign g0 (oc _)) cn) fun a1 w1 b1 s1 => ?_
  have z1 := b1
  refine wp_seq ?_
  refine wp_seq ?_
  refine flowC mixed (s1.keep (sc 0 rfl (sc 1 rfl (sc 4 rfl sn)))) (by kernel_rfl) (by kernel_rfl) (cc rfl (p_call 28 g0 ox0 (fun _ _ => by kernel_rfl) f28)
      (cc rfl (p_not g0 (od rfl id)) cn)) fun a2 w2 b2 s2 => ?_
  have z2 := z1.trans (b2.mono z1.size)
  refine s2.cond 11 rfl (fun h => absurd h (by decide)) fun _ => ?_
  refine wp_skip ?_
  refine wp_seq ?_
  refine wp_seq ?_
  refine flowC mixed (s2.keep (sc 0 rfl (sc 1 rfl (sc 4 rfl sn)))) (by kernel_rfl) (by kernel_rfl) (cc rfl (p_move g0 (od rfl id))
      (cc rfl (p_len ln_22 g0 (od rfl id))
      (cc rfl (p_bin g0 (od rfl id) (oc _) b_gtr_3) cn))) fun a3 w3 b3 s3 => ?_
  have z3 := z2.trans (b3.mono z2.size)
  refine s3.cond 14 rfl (fun h14 => ?_) (fun h14 => ?_)
  · -- true
    refine wp_seq ?_
    refine flowT (s3.keep (sc 0 rfl (sc 1 rfl (sc 4 rfl sn)))) (by kernel_rfl) (cc rfl (p_assign g0 (oc _)) cn) fun a4 w4 b4 s4 => ?_
    have z4 := z3.trans (b4.mono z3.size)
    exact wp_ret (ret_law (fn := Try.f7) s4 4 rfl rfl rfl z4)
  · -- false
    have hl : b.length ≤ 500 := by have := of_decide_eq_false h14; omega
    refine wp_skip ?_
    refine wp_seq ?_
    refine flowT (s3.keep (sc 0 rfl (sc 1 rfl (sc 4 rfl sn)))) (by kernel_rfl) (cc rfl (p_move g0 (od rfl id))
        (cc rfl (p_bin g0 (od rfl id) (oc _) and_3)
        (cc rfl (p_assign g0 (od rfl id)) cn))) fun a5 w5 b5 s5 => ?_
    have z5 := z3.trans (b5.mono z3.size)
    obtain ⟨n, en, hn⟩ := i64_and3 q
    have s5 := s5.more 1 (y := .int .i64 (n : Int)) (int_as (s5.get 1 rfl) en)
    refine wp_seq ?_
    refine flowC mixed (s5.keep (sc 0 rfl (sc 1 rfl (sc 4 rfl sn)))) (by kernel_rfl) (by kernel_rfl) (cc rfl (p_move g0 (od rfl id))
        (cc rfl (p_move g0 (od rfl id))
        (cc rfl (p_call 41 g0 (ox (od rfl id) (ox (od rfl id) ox0)) (fun _ _ => by kernel_rfl) (f41 (bs := b) (n := n) hB (by omega) (by omega)))
        (cc rfl (p_move g0 (od rfl id))
        (cc rfl (p_ext0 g0 (od rfl id))
        (cc rfl (p_ext1 g0 (od rfl id))
        (cc rfl (p_assign g0 (od rfl id))
        (cc rfl (p_assign g0 (od rfl id)) cn)))))))) fun a6 w6 b6 s6 => ?_
    have z6 := z5.trans (b6.mono z5.size)
    refine wp_seq ?_
    refine wp_seq ?_
    refine flowC mixed (s6.keep (sc 0 rfl (sc 1 rfl (sc 4 rfl (sc 5 rfl (sc 6 rfl sn)))))) (by kernel_rfl) (by kernel_rfl) (cc rfl (p_move g0 (od rfl id))
        (cc rfl (p_bin g0 (od rfl id) (oc _) b_neq_47) cn)) fun a7 w7 b7 s7 => ?_
    have z7 := z6.trans (b7.mono z6.size)
    refine s7.cond 24 rfl (fun h24 => ?_) (fun h24 => ?_)
    · -- true
      have e10 : (labsV b n).2 = 10 := Classical.byContradiction fun hc => by have := (labsV_ok hB hc).1; rw [this] at h24; simp at h24
      have eN := labsV_bad e10
      refine wp_seq ?_
      refine flowT (s7.keep (sc 0 rfl (sc 1 rfl (sc 4 rfl (sc 5 rfl (sc 6 rfl sn)))))) (by kernel_rfl) (cc rfl (p_move g0 (od rfl id))
          (cc rfl (p_bin g0 (od rfl id) (oc _) b_eql_47)
          (cc rfl (p_move g0 (od rfl id))
          (cc rfl (p_move (g1 rfl rfl) (od rfl (fun _ => rfl)))
          (cc rfl (p_len ln_46 (g1 rfl rfl) (od rfl id))
          (cc rfl (p_bin (g1 rfl rfl) (od rfl id) (oc _) b_eql_3)
          (cc rfl (p_and g0 (od rfl id) (od rfl id))
          (cc rfl (p_assign g0 (od rfl id)) cn)))))))) fun a8 w8 b8 s8 => ?_
      have z8 := z7.trans (b8.mono z7.size)
      exact wp_ret (ret_law (fn := Try.f7) s8 4 rfl rfl (by rw [e10, eN]; rfl) z8)
    · -- false
      have e0 : (labsV b n).2 = 0 := by simpa using h24
      obtain ⟨_, hlen, hok, hbs⟩ := labsV_ok hB (n := n) (by rw [e0]; decide)
      refine wp_skip ?_
      refine wp_seq ?_
      refine flowC mixed (s7.keep (sc 0 rfl (sc 1 rfl (sc 4 rfl (sc 5 rfl sn))))) (by kernel_rfl) (by kernel_rfl) (cc rfl (p_assign g0 (oc _)) cn) fun a9 w9 b9 s9 => ?_
      have z9 := z7.trans (b9.mono z7.size)
      have s9 := s9.more 7 (y := .by (labsB ((labsV b n).1.take 0))) (⟨none, 0, by rw [show _ = _ from s9.get 7 rfl]; rfl, fun h => absurd h (by simp [labsB]), Nat.le_refl _⟩)
      refine wp_seq ?_
      refine wp_seq ?_
      refine flowC mixed (s9.keep (sc 0 rfl (sc 1 rfl (sc 4 rfl (sc 5 rfl (sc 7 rfl sn)))))) (by kernel_rfl) (by kernel_rfl) (cc rfl (p_move g0 (od rfl id))
          (cc rfl (p_len ln_46 g0 (od rfl id))
          (cc rfl (p_move g0 (oc _)) cn))) fun a10 w10 b10 s10 => ?_
      have z10 := z9.trans (b10.mono z9.size)
      refine wp_block ?_
      refine wp_range ((labsV b n).1.length) 34 (fun i => [(7, true, .by (labsB ((labsV b n).1.take i)))]) (fun _ _ => True) (s10.keep (sc 34 rfl (sc 7 rfl (sc 0 rfl (sc 1 rfl (sc 4 rfl (sc 5 rfl (sc 32 rfl (sc 33 rfl sn))))))))) z10 True.intro fun i a11 w11 hi1 s11 z11 x11 => ?_
      refine wp_seq ?_
      refine flowC mixed (s11.keep (sc 0 rfl (sc 1 rfl (sc 4 rfl (sc 5 rfl (sc 7 rfl (sc 32 rfl (sc 33 rfl (sc 34 rfl sn))))))))) (by kernel_rfl) (by kernel_rfl) (cc rfl (p_bin g0 (od rfl id) (od rfl id) b_lss_3) cn) fun a12 w12 b12 s12 => ?_
      have z12 := z11.trans (b12.mono z11.size)
      refine wp_seq ?_
      refine s12.cond 35 rfl (fun h => ?_) (fun h => ?_)
      · -- true
        have hlt1 : i < ((labsV b n).1).length := by simpa using h
        obtain ⟨l, el⟩ : ∃ x, ((labsV b n).1)[i]? = some x := ⟨_, List.getElem?_eq_getElem hlt1⟩
        obtain ⟨hr, h12⟩ := hok l (getL el)
        have hle := labsB_le (labsV b n).1 i
        rw [hbs] at hle
        refine wp_skip ?_
        refine wp_seq ?_
        refine wp_block ?_
        refine wp_seq ?_
        refine flowQ 3 mixed (s12.keep (sc 0 rfl (sc 1 rfl (sc 4 rfl (sc 5 rfl (sc 7 rfl (sc 32 rfl (sc 33 rfl (sc 34 rfl (sc 35 rfl sn)))))))))) (by kernel_rfl) (by kernel_rfl) (cc rfl (p_index ix_46 el g0 (od rfl id) (od rfl id))
            (cc rfl (p_load Try.underlying39 rfl sz_39 g0 (od rfl id))
            (ca rfl (m_alloc al_39 nu39) cn))) (by kernel_rfl) (ss rfl rfl rfl rfl puts_st sz_39 rfl rfl ss0) fun a13 w13 b13 s13 => ?_
        have z13 := z12.trans (b13.mono z12.size)
        refine wp_seq ?_
        refine wp_seq ?_
        refine flowC mixed (s13.keep (sc 0 rfl (sc 1 rfl (sc 4 rfl (sc 5 rfl (sc 7 rfl (sc 9 rfl (sc 32 rfl (sc 33 rfl (sc 34 rfl (sc 35 rfl (sc 36 rfl (sc 37 rfl sn))))))))))))) (by kernel_rfl) (by kernel_rfl) (cc rfl (p_load Try.underlying39 rfl sz_39 g0 (od rfl id))
            (cc rfl (p_call 42 g0 (ox (od rfl id) ox0) (fun _ _ => by kernel_rfl) (f42r (by omega)))
            (cc rfl (p_not g0 (od rfl id)) cn))) fun a14 w14 b14 s14 => ?_
        have z14 := z13.trans (b14.mono z13.size)
        refine s14.cond 40 rfl (fun h => absurd h (by simp [hr])) fun _ => ?_
        refine wp_skip ?_
        refine flowT (s14.keep (sc 0 rfl (sc 1 rfl (sc 4 rfl (sc 5 rfl (sc 7 rfl (sc 9 rfl (sc 32 rfl (sc 33 rfl (sc 34 rfl (sc 35 rfl (sc 36 rfl (sc 37 rfl (sc 38 rfl (sc 39 rfl (sc 40 rfl sn)))))))))))))))) (by kernel_rfl) (cc rfl (p_move g0 (od rfl id))
            (cc rfl (p_load Try.underlying39 rfl sz_39 g0 (od rfl id))
            (cc rfl (p_call 37 g0 (ox (od rfl id) (ox (od rfl id) ox0)) (fun _ _ => by kernel_rfl) (f37 (by omega) (by omega)))
            (cc rfl (p_assign g0 (od rfl id)) cn)))) fun a15 w15 b15 s15 => ?_
        have z15 := z14.trans (b15.mono z14.size)
        have s15 := s15.more 7 (y := .by (labsB ((labsV b n).1.take (i + 1)))) (by rw [labsB_take el]; exact s15.get 7 rfl)
        refine flowT (s15.keep (sc 0 rfl (sc 1 rfl (sc 4 rfl (sc 5 rfl (sc 7 rfl (sc 9 rfl (sc 32 rfl (sc 33 rfl (sc 34 rfl (sc 35 rfl (sc 36 rfl (sc 37 rfl (sc 38 rfl (sc 39 rfl (sc 40 rfl (sc 41 rfl (sc 42 rfl (sc 43 rfl sn))))))))))))))))))) (by kernel_rfl) (cc rfl (p_bin g0 (od rfl id) (oc _) (inc_3 (by omega)))
            (cc rfl (p_move g0 (od rfl id)) cn)) fun a16 w16 b16 s16 => ?_
        have z16 := z15.trans (b16.mono z15.size)
        exact ⟨hlt1, s16.to _ ⟨rfl, rfl, rfl, rfl, rfl, rfl, rfl, rfl, True.intro⟩, z16, True.intro⟩
      · -- false
        obtain rfl : i = ((labsV b n).1).length := by have := of_decide_eq_false h; (try dsimp only at this); omega
        refine wp_exit ?_
        refine wp_seq ?_
        refine flowT (s12.keep (sc 0 rfl (sc 1 rfl (sc 4 rfl (sc 5 rfl (sc 7 rfl (sc 32 rfl (sc 33 rfl (sc 34 rfl sn))))))))) (by kernel_rfl) (cc rfl (p_move g0 (od rfl id))
            (cc rfl (p_len ln_46 g0 (od rfl id))
            (cc rfl (p_move g0 (od rfl id))
            (cc rfl (p_bin g0 (od rfl id) (od rfl id) b_eql_3)
            (cc rfl (p_move g0 (od rfl id))
            (cc rfl (p_move (g1 rfl rfl) (od rfl (fun _ => rfl)))
            (cc rfl (p_move (g1 rfl rfl) (od rfl (fun _ => rfl)))
            (cc rfl (p_call 30 (g1 rfl rfl) (ox (od rfl id) (ox (od rfl id) ox0)) (fun _ _ => by kernel_rfl) (f30 (labsB_byt _) hB))
            (cc rfl (p_and g0 (od rfl id) (od rfl id))
            (cc rfl (p_assign g0 (od rfl id)) cn)))))))))) fun a17 w17 b17 s17 => ?_
        have z17 := z12.trans (b17.mono z12.size)
        exact wp_ret (ret_law (fn := Try.f7) s17 4 rfl rfl (by rw [List.take_length, hbs, hlen]; simp) z17)

set_option maxRecDepth 100000 in
theorem packOnly_lifted (os : Os) (started : os.Started) (H : Type) (enc : TypeId × Value → H) :
    ReturnsInHanded {} Try.checked os 7 .any (Rows.packOnlySpec.pre6 enc Try.prog Try.f7 Rows.packOnlyRow.domain false) (Rows.packOnlySpec.post enc Try.prog Try.f7 false true false false) := by
  refine lifted_of (C := Try.checked) laidOut own started (by kernel_rfl) Try.func7 rfl Try.underlying4 (by kernel_rfl) rfl
    (fun ds hds => by match ds, hds with | [_, _], _ => rfl)
    (ChangeSpec.witness6 (enc := enc) (C := Try.checked) false ⟨#[], #[.slice none 0 0, .int .i64 0], []⟩ 8 (by kernel_rfl) (by kernel_rfl) (by kernel_rfl) (by kernel_rfl)) ?_
  intro w base args ds ps hval0 hA0 hlt
  have hval : ∀ (j : Nat) t v, Try.f7.params[j]? = some t → args[j]? = some v → Value.okWide Try.prog w .any base t v := hval0
  have hA : DataW.TrodAll enc Try.prog w 0 (fun _ => true) true Try.f7.params.toList args.toList ds ps := hA0
  rw [Try.params7] at hA hval
  obtain ⟨v0, vs0, d0, ds0, p0, q0, hargs, rfl, rfl, h0, r0⟩ := trodAll_cons hA
  obtain ⟨v1, vs1, d1, ds1, p1, q1, rfl, rfl, rfl, h1, r1⟩ := trodAll_cons r0
  obtain ⟨rfl, rfl, rfl⟩ := trodAll_nil r1
  obtain rfl : args = #[v0, v1] := by cases args; simp_all
  obtain ⟨x0, o0, s0⟩ := open_sl Try.underlying22 opens_bytes (hval 0 22 v0 rfl rfl) h0 (fun x hx => hlt x (List.mem_append_left _ hx))
  obtain ⟨x1, rfl, rfl, rfl, o1⟩ := open_int Try.underlying3 (hval 1 3 v1 rfl rfl) h1
  exact packOnly_walk w v0 _ x0 _ (byt_wf o0.2) s0 rfl

set_option maxRecDepth 100000 in
theorem packOnly_facts : joinedFacts Try.pinned.checked.prog 7 Try.f7 Rows.packOnlySpec Rows.packOnlyRow = true := by
  show joinedFacts Try.prog 7 Try.f7 Rows.packOnlySpec Rows.packOnlyRow = true
  unfold joinedFacts
  rw [mayEnter_ok, liftsFinal_ok, make_ok]
  kernel_rfl
theorem packOnly_holds : Rows.PackOnlySaid :=
  OpenClaim.holds_of_wide 7 Try.f7 rfl rfl rfl rfl rfl rfl rfl ⟨rfl, rfl, rfl, rfl, rfl⟩ rfl rfl rfl rfl rfl (by kernel_rfl) Try.func7 packOnly_facts
    (of_decide_eq_true (by kernel_rfl)) (by unfold Func.isWrapper; rw [if_neg (of_decide_eq_false (by kernel_rfl))]; exact ⟨rfl, rfl⟩)
    (fun os started H enc _ => packOnly_lifted os started H enc)
#print axioms packOnly_holds

end Go.Proofs.Ytihddficgpjgpaa.Y
