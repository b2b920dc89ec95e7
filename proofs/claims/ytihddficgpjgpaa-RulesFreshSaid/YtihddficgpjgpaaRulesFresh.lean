/- RulesFresh: who makes a category owns it, may change what is at any level of it, and gives nobody else anything. -/
import Derived.Test.YtihddficgpjgpaaXmath
namespace Go.Proofs.Ytihddficgpjgpaa.X
open Go.RowKit Go.ChangeShapes Go.WideShapes Go.ChangeAt

theorem fresh_law1 {a b : Lab} {c : Int} (fa : Fine a) (fb : Fine b) (sa : SeedCats a) (sb : SeedCats b) (hc : 100 ≤ c) (hc2 : c ≤ 2000) (h : (!freshB' (a, joinL a b) c) = true) : (((a.ps.length : Int) == 12) || (((joinL a b).ps.length : Int) == 12)) = true := by
  have gj : Good (joinL a b) := good_join fa.good fb.good
  have cj : SeedCats (joinL a b) := merge_cats max fa.good fb.good sa sb
  have hj := cats_len gj.rise (by omega) (by omega) cj
  have hal := fa.len
  have dj : 1 ≤ (joinL a b).d ∧ (joinL a b).d ≤ 4 := by
    have e : (joinL a b).d = max a.d b.d := rfl
    have := fa.d1; have := fa.d4; have := fb.d1; have := fb.d4
    omega
  have uj : Upto 4 (joinL a b) := fun x => by
    rw [lv_join fa.good fb.good]
    have := fa.lv4 x; have := fb.lv4 x
    omega
  by_cases h1 : a.ps.length = 12
  · simp [h1]
  by_cases h2 : (joinL a b).ps.length = 12
  · simp [h2]
  exfalso
  unfold freshB' at h
  simp only at h
  rw [right_with fa.good ⟨fa.d1, fa.d4⟩ fa.lv4 sa hc (by omega) (by omega) (by omega), right_with gj dj uj cj hc (by omega) (by omega) (by omega)] at h
  simp at h
theorem fresh_law2 {a b : Lab} {c l : Int} (fa : Fine a) (fb : Fine b) (sa : SeedCats a) (hc : 100 ≤ c) (h1 : 1 ≤ l) (h4 : l ≤ 4) : (((((((freshL (a, joinL a b) c).1.lv c == 0) && ((freshL (a, joinL a b) c).2.lv c == 4)) && changeB (freshL (a, joinL a b) c).1 (withL (freshL (a, joinL a b) c).1 c l)) && (((a.lv c == l) || decide (l < a.lv c)) || !readB a (withL a c l))) && (((ownsL (freshL (a, joinL a b) c).1).length : Int) == IntKind.i64.wrap (((ownsL a).length : Int) + 1)))) = true := by
  have A := fa.good
  have gj : Good (joinL a b) := good_join A fb.good
  have hc0 : 0 < c := by omega
  have e0 : (freshL (a, joinL a b) c).1 = withL a c 0 := rfl
  have e0' : (freshL (a, joinL a b) c).2 = withL (joinL a b) c 4 := rfl
  rw [e0, e0']
  have gw := good_with A hc0 0
  have go := good_with gw hc0 l
  have gr : Good (raiseL (withL a c 0)) := good_turn 0 5 gw
  have gra : Good (raiseL a) := good_turn 0 5 A
  have hn := cats_none sa hc
  have ac : a.lv c = a.d := lv_none fun ⟨p, hp, e⟩ => hn p hp e
  have k1 : (withL a c 0).lv c = 0 := by rw [lv_with A, if_pos rfl]
  have k2 : (withL (joinL a b) c 4).lv c = 4 := by rw [lv_with gj, if_pos rfl]
  have uw : ∀ x, 0 ≤ (withL a c 0).lv x := fun x => by
    rw [lv_with A]
    have := fa.lv4 x
    split <;> omega
  have k3 : changeB (withL a c 0) (withL (withL a c 0) c l) = true := by
    unfold changeB
    rw [Bool.and_eq_true]
    constructor
    · refine (leqB_iff gw go).2 fun x => ?_
      rw [lv_with gw]
      split
      · rename_i h; rw [h, k1]; omega
      · exact Int.le_refl _
    · refine (leqB_iff go gr).2 fun x => ?_
      rw [lv_raise gw, lv_with gw]
      have := uw x
      unfold turnF
      split
      · rename_i h; rw [h, k1]; simp; omega
      · split <;> omega
  have k4 : (((a.lv c == l) || decide (l < a.lv c)) || !readB a (withL a c l)) = true := by
    by_cases h : a.lv c = l
    · simp [h]
    by_cases h' : l < a.lv c
    · simp [h']
    have : readB a (withL a c l) = false := by
      cases hr : readB a (withL a c l) with
      | false => rfl
      | true =>
        have := (leqB_iff (good_with A hc0 l) gra).1 hr c
        rw [lv_with A, if_pos rfl, lv_raise A, ac] at this
        unfold turnF at this
        have := fa.d1
        rw [if_neg (by omega)] at *
        omega
    rw [this]; simp
  have k5 : (ownsL (withL a c 0)).length = (ownsL a).length + 1 := by
    unfold ownsL
    rw [List.length_map, List.length_map]
    exact owns_with a.d c (by have := fa.d1; omega) hn
  have hol := owns_len a
  have hal := fa.len
  rw [k1, k2, k3, k4, k5]
  have : IntKind.i64.wrap (((ownsL a).length : Int) + 1) = (((ownsL a).length + 1 : Nat) : Int) := by rw [IntKind.wrap_i64]; omega
  rw [this]
  simp
set_option maxRecDepth 100000 in
theorem rulesFresh_walk (w : World) (v0 v1 v2 : Value) (a b : Lab) (k e c l : Int) (h0 : (.st (Lay.arr sdL 2) [a, b] : Sym).on w noF v0) (h1 : (.int .u32 k : Sym).on w noF v1) (h2 : (.int .i64 e : Sym).on w noF v2) (fa : Fine a) (fb : Fine b) (sa : SeedCats a) (sb : SeedCats b) (hc : 100 ≤ c) (hc2 : c ≤ 2000) (h1l : 1 ≤ l) (h4l : l ≤ 4) (hcc : IntKind.u32.wrap (bits .and .u32 k 1023 + 100) = c) (hll : IntKind.i64.wrap ((IntKind.i64.wrap (e.tmod 4 + 4)).tmod 4 + 1) = l) : Calls Try.prog 22 #[v0, v1, v2] w fun e w' => e = .returned (.bool true) ∧ Below w.heap.size w w' := by
  go_enter Try.func22, Try.ntmps22
  refine wp_seq ?_
  refine flowC mixed (st0 (U := True) (N := 116) (e := [(0, true, .st (Lay.arr sdL 2) [a, b]), (1, true, .int .u32 k), (2, true, .int .i64 e)]) (F := noF) rfl rfl (fok_none True w) ⟨⟨rfl, h0⟩, ⟨⟨rfl, h1⟩, ⟨⟨rfl, h2⟩, True.intro⟩⟩⟩) (by kernel_rfl) (by kernel_rfl) (cc rfl (p_box bx_80 g0 (od rfl id))
      (cc rfl (p_assign g0 (oc _)) cn)) fun a1 w1 b1 s1 => ?_
  have z1 := b1
  refine wp_seq ?_
  refine wp_seq ?_
  refine flowC mixed (s1.keep (sc 1 rfl (sc 2 rfl (sc 3 rfl (sc 6 rfl sn))))) (by kernel_rfl) (by kernel_rfl) (cc rfl (p_call 53 g0 ox0 (fun _ _ => by kernel_rfl) f53t)
      (cc rfl (p_not g0 (od rfl id)) cn)) fun a2 w2 b2 s2 => ?_
  have z2 := z1.trans (b2.mono z1.size)
  refine s2.cond 13 rfl (fun h => absurd h (by decide)) fun _ => ?_
  refine wp_skip ?_
  refine wp_seq ?_
  refine flowT (s2.keep (sc 1 rfl (sc 2 rfl (sc 3 rfl (sc 6 rfl sn))))) (by kernel_rfl) (cc rfl (p_move g0 (od rfl id))
      (cc rfl (p_bin g0 (od rfl id) (oc _) b_and_70)
      (cc rfl (p_bin g0 (od rfl id) (oc _) b_add_70)
      (cc rfl (p_assign g0 (od rfl id)) cn)))) fun a3 w3 b3 s3 => ?_
  have z3 := z2.trans (b3.mono z2.size)
  have s3 := s3.more 1 (y := .int .u32 c) (int_as (s3.get 1 rfl) hcc)
  refine wp_seq ?_
  refine flowQ 12 mixed (s3.keep (sc 1 rfl (sc 2 rfl (sc 3 rfl (sc 6 rfl sn))))) (by kernel_rfl) (by kernel_rfl) (cc rfl (p_indexArr ia_80_0 rfl g0 (od rfl id))
      (cc rfl (p_load Try.underlying36 rfl sz_36 g0 (od rfl id))
      (cc rfl (p_call 36 g0 (ox (od rfl id) ox0) (fun _ _ => by kernel_rfl) f36)
      (cc rfl (p_indexArr ia_80_0 rfl g0 (od rfl id))
      (cc rfl (p_load Try.underlying36 rfl sz_36 g0 (od rfl id))
      (cc rfl (p_call 36 g0 (ox (od rfl id) ox0) (fun _ _ => by kernel_rfl) f36)
      (cc rfl (p_indexArr ia_80_1 rfl g0 (od rfl id))
      (cc rfl (p_load Try.underlying36 rfl sz_36 g0 (od rfl id))
      (cc rfl (p_call 36 g0 (ox (od rfl id) ox0) (fun _ _ => by kernel_rfl) f36)
      (cc rfl (p_call 58 g0 (ox (od rfl id) (ox (od rfl id) ox0)) (fun _ _ => by kernel_rfl) (f58 (by decide)))
      (cc rfl (p_build2 bd_83 g0 (od rfl id) (od rfl id))
      (ca rfl (m_alloc al_83 nu83) cn)))))))))))) (by kernel_rfl) (ss rfl rfl rfl rfl puts_st sz_83 rfl rfl ss0) fun a4 w4 b4 s4 => ?_
  have z4 := z3.trans (b4.mono z3.size)
  refine wp_seq ?_
  refine flowV 8 mixed (s4.keep (sc 1 rfl (sc 2 rfl (sc 6 rfl (sc 7 rfl sn))))) (by kernel_rfl) (cc rfl (p_load Try.underlying83 rfl sz_83 g0 (od rfl id))
      (cc rfl (p_move g0 (od rfl id))
      (cc rfl (p_call 68 g0 (ox (od rfl id) (ox (od rfl id) ox0)) (fun _ _ => by kernel_rfl) (f68 (by decide) (by decide) (by omega)))
      (cc rfl (p_move g0 (od rfl id))
      (cc rfl (p_ext0 g0 (od rfl id))
      (cc rfl (p_ext1 g0 (od rfl id))
      (ca rfl (m_alloc al_83 nu83)
      (cs rfl cn)))))))) (sv (m := 7) rfl rfl rfl rfl puts_st sz_83 (puts_nou nuw) sv0) (by kernel_rfl) (by kernel_rfl) (by kernel_rfl) fun a5 w5 b5 s5 => ?_
  have z5 := z4.trans (b5.mono z4.size)
  refine chainT (t := []) (cc rfl (p_assign g0 (od rfl id)) cn) (by kernel_rfl) s5 fun a6 w6 b6 s6 => wpList_done ?_
  have z6 := z5.trans (b6.mono z5.size)
  refine wp_seq ?_
  refine wp_seq ?_
  refine flowC mixed (s6.keep (sc 1 rfl (sc 2 rfl (sc 6 rfl (sc 7 rfl (sc 8 rfl (sc 9 rfl sn))))))) (by kernel_rfl) (by kernel_rfl) (cc rfl (p_move g0 (od rfl id))
      (cc rfl (p_not g0 (od rfl id)) cn)) fun a7 w7 b7 s7 => ?_
  have z7 := z6.trans (b7.mono z6.size)
  refine s7.cond 35 rfl (fun h35 => ?_) (fun h35 => ?_)
  · -- true
    refine wp_seq ?_
    refine flowT (s7.keep (sc 1 rfl (sc 2 rfl (sc 6 rfl (sc 7 rfl (sc 8 rfl sn)))))) (by kernel_rfl) (cc rfl (p_fieldAddr ptw0 fa_83_0 g0 (od rfl id))
        (cc rfl (p_fieldAddr pt39_1 fa_39_1 g0 (od rfl id))
        (cc rfl (p_load1 rfl ld_37 g0 (od rfl id))
        (cc rfl (p_len ln_37 g0 (od rfl id))
        (cc rfl (p_bin g0 (od rfl id) (oc _) b_eql_3)
        (cc rfl (p_move g0 (od rfl id))
        (cc rfl (p_fieldAddr ptw1 fa_83_1 (g1 rfl rfl) (od rfl (fun _ => rfl)))
        (cc rfl (p_fieldAddr pt39_1 fa_39_1 (g1 rfl rfl) (od rfl id))
        (cc rfl (p_load1 rfl ld_37 (g1 rfl rfl) (od rfl id))
        (cc rfl (p_len ln_37 (g1 rfl rfl) (od rfl id))
        (cc rfl (p_bin (g1 rfl rfl) (od rfl id) (oc _) b_eql_3)
        (cc rfl (p_or g0 (od rfl id) (od rfl id))
        (cc rfl (p_assign g0 (od rfl id)) cn))))))))))))) fun a8 w8 b8 s8 => ?_
    have z8 := z7.trans (b8.mono z7.size)
    exact wp_ret (ret_law (fn := Try.f22) s8 6 rfl rfl (fresh_law1 fa fb sa sb hc hc2 h35) z8)
  · -- false
    refine wp_skip ?_
    refine wp_seq ?_
    refine flowT (s7.keep (sc 1 rfl (sc 2 rfl (sc 6 rfl (sc 7 rfl (sc 8 rfl sn)))))) (by kernel_rfl) (cc rfl (p_move g0 (od rfl id))
        (cc rfl (p_bin g0 (od rfl id) (oc _) (b_rem_3 (by decide)))
        (cc rfl (p_bin g0 (od rfl id) (oc _) b_add_3)
        (cc rfl (p_bin g0 (od rfl id) (oc _) (b_rem_3 (by decide)))
        (cc rfl (p_bin g0 (od rfl id) (oc _) b_add_3)
        (cc rfl (p_assign g0 (od rfl id)) cn)))))) fun a9 w9 b9 s9 => ?_
    have z9 := z7.trans (b9.mono z7.size)
    have s9 := s9.more 2 (y := .int .i64 l) (int_as (s9.get 2 rfl) hll)
    refine wp_seq ?_
    refine flowQ 6 mixed (s9.keep (sc 1 rfl (sc 2 rfl (sc 6 rfl (sc 7 rfl (sc 8 rfl sn)))))) (by kernel_rfl) (by kernel_rfl) (cc rfl (p_fieldAddr ptw0 fa_83_0 g0 (od rfl id))
        (cc rfl (p_load Try.underlying39 rfl sz_39 g0 (od rfl id))
        (cc rfl (p_move g0 (od rfl id))
        (cc rfl (p_move g0 (od rfl id))
        (cc rfl (p_call 50 g0 (ox (od rfl id) (ox (od rfl id) (ox (od rfl id) ox0))) (fun _ _ => by kernel_rfl) (f50 (by decide) (by omega)))
        (ca rfl (m_alloc al_39 nu39) cn)))))) (by kernel_rfl) (ss rfl rfl rfl rfl puts_st sz_39 rfl rfl ss0) fun a10 w10 b10 s10 => ?_
    have z10 := z9.trans (b10.mono z9.size)
    refine wp_seq ?_
    refine flowQ 6 mixed (s10.keep (sc 1 rfl (sc 2 rfl (sc 6 rfl (sc 7 rfl (sc 8 rfl (sc 10 rfl sn))))))) (by kernel_rfl) (by kernel_rfl) (cc rfl (p_fieldAddr ptw0 fa_83_0 g0 (od rfl id))
        (cc rfl (p_load Try.underlying39 rfl sz_39 g0 (od rfl id))
        (cc rfl (p_move g0 (od rfl id))
        (cc rfl (p_move g0 (od rfl id))
        (cc rfl (p_call 50 g0 (ox (od rfl id) (ox (od rfl id) (ox (od rfl id) ox0))) (fun _ _ => by kernel_rfl) (f50 (by decide) (by omega)))
        (ca rfl (m_alloc al_39 nu39) cn)))))) (by kernel_rfl) (ss rfl rfl rfl rfl puts_st sz_39 rfl rfl ss0) fun a11 w11 b11 s11 => ?_
    have z11 := z10.trans (b11.mono z10.size)
    refine wp_seq ?_
    refine flowC mixed (s11.keep (sc 1 rfl (sc 2 rfl (sc 7 rfl (sc 8 rfl (sc 10 rfl (sc 11 rfl sn))))))) (by kernel_rfl) (by kernel_rfl) (cc rfl (p_fieldAddr ptw0 fa_83_0 g0 (od rfl id))
        (cc rfl (p_load Try.underlying39 rfl sz_39 g0 (od rfl id))
        (cc rfl (p_move g0 (od rfl id))
        (cc rfl (p_call 51 g0 (ox (od rfl id) (ox (od rfl id) ox0)) (fun _ _ => by kernel_rfl) (f51 (by decide)))
        (cc rfl (p_bin g0 (od rfl id) (oc _) b_eql_3)
        (cc rfl (p_move g0 (od rfl id))
        (cc rfl (p_fieldAddr ptw1 fa_83_1 (g1 rfl rfl) (od rfl (fun _ => rfl)))
        (cc rfl (p_load Try.underlying39 rfl sz_39 (g1 rfl rfl) (od rfl id))
        (cc rfl (p_move (g1 rfl rfl) (od rfl (fun _ => rfl)))
        (cc rfl (p_call 51 (g1 rfl rfl) (ox (od rfl id) (ox (od rfl id) ox0)) (fun _ _ => by kernel_rfl) (f51 (by decide)))
        (cc rfl (p_bin (g1 rfl rfl) (od rfl id) (oc _) b_eql_3)
        (cc rfl (p_and g0 (od rfl id) (od rfl id))
        (cc rfl (p_move g0 (od rfl id))
        (cc rfl (p_fieldAddr ptw0 fa_83_0 (g1 rfl rfl) (od rfl (fun _ => rfl)))
        (cc rfl (p_load Try.underlying39 rfl sz_39 (g1 rfl rfl) (od rfl id))
        (cc rfl (p_load Try.underlying39 rfl sz_39 (g1 rfl rfl) (od rfl (fun _ => rfl)))
        (cc rfl (p_call 55 (g1 rfl rfl) (ox (od rfl id) (ox (od rfl id) ox0)) (fun _ _ => by kernel_rfl) (f55 (by decide) (by decide)))
        (cc rfl (p_and g0 (od rfl id) (od rfl id))
        (cc rfl (p_move g0 (od rfl id))
        (cc rfl (p_fieldAddr ptw0 fa_83_0 (g1 rfl rfl) (od rfl (fun _ => rfl)))
        (cc rfl (p_load Try.underlying39 rfl sz_39 (g1 rfl rfl) (od rfl id))
        (cc rfl (p_move (g1 rfl rfl) (od rfl (fun _ => rfl)))
        (cc rfl (p_call 51 (g1 rfl rfl) (ox (od rfl id) (ox (od rfl id) ox0)) (fun _ _ => by kernel_rfl) (f51 (by decide)))
        (cc rfl (p_move (g1 rfl rfl) (od rfl (fun _ => rfl)))
        (cc rfl (p_bin (g1 rfl rfl) (od rfl id) (od rfl id) b_eql_3)
        (cc rfl (p_move (g1 rfl rfl) (od rfl id))
        (cc rfl (p_fieldAddr ptw0 fa_83_0 (g1 rfl rfl) (od rfl (fun _ => rfl)))
        (cc rfl (p_load Try.underlying39 rfl sz_39 (g1 rfl rfl) (od rfl id))
        (cc rfl (p_move (g1 rfl rfl) (od rfl (fun _ => rfl)))
        (cc rfl (p_call 51 (g1 rfl rfl) (ox (od rfl id) (ox (od rfl id) ox0)) (fun _ _ => by kernel_rfl) (f51 (by decide)))
        (cc rfl (p_move (g1 rfl rfl) (od rfl (fun _ => rfl)))
        (cc rfl (p_bin (g1 rfl rfl) (od rfl id) (od rfl id) b_gtr_3)
        (cc rfl (p_or (g1 rfl rfl) (od rfl id) (od rfl id))
        (cc rfl (p_move (g1 rfl rfl) (od rfl id))
        (cc rfl (p_fieldAddr ptw0 fa_83_0 (g1 rfl rfl) (od rfl (fun _ => rfl)))
        (cc rfl (p_load Try.underlying39 rfl sz_39 (g1 rfl rfl) (od rfl id))
        (cc rfl (p_load Try.underlying39 rfl sz_39 (g1 rfl rfl) (od rfl (fun _ => rfl)))
        (cc rfl (p_call 54 (g1 rfl rfl) (ox (od rfl id) (ox (od rfl id) ox0)) (fun _ _ => by kernel_rfl) (f54 (by decide) (by decide)))
        (cc rfl (p_not (g1 rfl rfl) (od rfl id))
        (cc rfl (p_or (g1 rfl rfl) (od rfl id) (od rfl id))
        (cc rfl (p_and g0 (od rfl id) (od rfl id))
        (cc rfl (p_move g0 (od rfl id))
        (cc rfl (p_fieldAddr ptw0 fa_83_0 (g1 rfl rfl) (od rfl (fun _ => rfl)))
        (cc rfl (p_load Try.underlying39 rfl sz_39 (g1 rfl rfl) (od rfl id))
        (cc rfl (p_call 56 (g1 rfl rfl) (ox (od rfl id) ox0) (fun _ _ => by kernel_rfl) (f56 (by decide)))
        (cc rfl (p_len ln_75 (g1 rfl rfl) (od rfl id))
        (cc rfl (p_fieldAddr ptw0 fa_83_0 (g1 rfl rfl) (od rfl (fun _ => rfl)))
        (cc rfl (p_load Try.underlying39 rfl sz_39 (g1 rfl rfl) (od rfl id))
        (cc rfl (p_call 56 (g1 rfl rfl) (ox (od rfl id) ox0) (fun _ _ => by kernel_rfl) (f56 (by decide)))
        (cc rfl (p_len ln_75 (g1 rfl rfl) (od rfl id))
        (cc rfl (p_bin (g1 rfl rfl) (od rfl id) (oc _) b_add_3)
        (cc rfl (p_bin (g1 rfl rfl) (od rfl id) (od rfl id) b_eql_3)
        (cc rfl (p_and g0 (od rfl id) (od rfl id))
        (cc rfl (p_assign g0 (od rfl id)) cn)))))))))))))))))))))))))))))))))))))))))))))))))))))) fun a12 w12 b12 s12 => ?_
    have z12 := z11.trans (b12.mono z11.size)
    exact wp_ret (ret_law (fn := Try.f22) s12 6 rfl rfl (fresh_law2 fa fb sa hc h1l h4l) z12)

set_option maxRecDepth 100000 in
theorem rulesFresh_lifted (os : Os) (started : os.Started) (H : Type) (enc : TypeId × Value → H) :
    ReturnsInHanded {} Try.checked os 22 .any (Rows.rulesFreshSpec.pre6 enc Try.prog Try.f22 Rows.rulesFreshRow.domain false) (Rows.rulesFreshSpec.post enc Try.prog Try.f22 false true false false) := by
  refine lifted_of (C := Try.checked) laidOut own started (by kernel_rfl) Try.func22 rfl Try.underlying4 (by kernel_rfl) rfl
    (fun ds hds => by match ds, hds with | [_, _, _], _ => rfl)
    (ChangeSpec.witness6 (enc := enc) (C := Try.checked) false ⟨#[], #[.agg #[.int .i64 0, .slice none 0 0, .int .i64 0, .slice none 0 0], .int .u32 0, .int .i64 0], []⟩ 8 (by kernel_rfl) (by kernel_rfl) (by kernel_rfl) (by kernel_rfl)) ?_
  intro w base args ds ps hval0 hA0 hlt
  have hval : ∀ (j : Nat) t v, Try.f22.params[j]? = some t → args[j]? = some v → Value.okWide Try.prog w .any base t v := hval0
  have hA : DataW.TrodAll enc Try.prog w 0 (fun _ => true) true Try.f22.params.toList args.toList ds ps := hA0
  rw [Try.params22] at hA hval
  obtain ⟨v0, vs0, d0, ds0, p0, q0, hargs, rfl, rfl, h0, r0⟩ := trodAll_cons hA
  obtain ⟨v1, vs1, d1, ds1, p1, q1, rfl, rfl, rfl, h1, r1⟩ := trodAll_cons r0
  obtain ⟨v2, vs2, d2, ds2, p2, q2, rfl, rfl, rfl, h2, r2⟩ := trodAll_cons r1
  obtain ⟨rfl, rfl, rfl⟩ := trodAll_nil r2
  obtain rfl : args = #[v0, v1, v2] := by cases args; simp_all
  obtain ⟨x0, o0, s0⟩ := open_st Try.underlying80 rfl opens_seeds2 (hval 0 80 v0 rfl rfl) h0 (fun x hx => hlt x (List.mem_append_left _ hx))
  obtain ⟨x1, rfl, rfl, rfl, o1⟩ := open_int Try.underlying70 (hval 1 70 v1 rfl rfl) h1
  obtain ⟨x2, rfl, rfl, rfl, o2⟩ := open_int Try.underlying3 (hval 2 3 v2 rfl rfl) h2
  exact (by obtain ⟨a, b, rfl, fa, fb, ca, cb⟩ := arr2c s0; have h1 := (show 0 ≤ x1 % 1024 by omega); have h2 := (show x1 % 1024 < 1024 by omega); have h3 := (show 0 ≤ x2 % 4 by omega); have h4 := (show x2 % 4 < 4 by omega); exact rulesFresh_walk w v0 _ _ a b x1 x2 _ _ s0 rfl rfl fa fb ca cb (by omega) (by omega) (by omega) (by omega) (cat1023 x1) (lev4 x2))

set_option maxRecDepth 100000 in
theorem rulesFresh_facts : joinedFacts Try.pinned.checked.prog 22 Try.f22 Rows.rulesFreshSpec Rows.rulesFreshRow = true := by
  show joinedFacts Try.prog 22 Try.f22 Rows.rulesFreshSpec Rows.rulesFreshRow = true
  unfold joinedFacts
  rw [mayEnter_ok, liftsFinal_ok, make_ok]
  kernel_rfl
theorem rulesFresh_holds : Rows.RulesFreshSaid :=
  OpenClaim.holds_of_wide 22 Try.f22 rfl rfl rfl rfl rfl rfl rfl ⟨rfl, rfl, rfl, rfl, rfl⟩ rfl rfl rfl rfl rfl (by kernel_rfl) Try.func22 rulesFresh_facts
    (of_decide_eq_true (by kernel_rfl)) (by unfold Func.isWrapper; rw [if_neg (of_decide_eq_false (by kernel_rfl))]; exact ⟨rfl, rfl⟩)
    (fun os started H enc _ => rulesFresh_lifted os started H enc)
#print axioms rulesFresh_holds

end Go.Proofs.Ytihddficgpjgpaa.X
