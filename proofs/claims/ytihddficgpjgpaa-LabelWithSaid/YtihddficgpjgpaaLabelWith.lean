/- LabelWith: a category that is set twice has its last level; those beside it keep theirs; set to the default it is named no more. -/
import Derived.Test.YtihddficgpjgpaaXnum
namespace Go.Proofs.Ytihddficgpjgpaa.X
open Go.RowKit Go.ChangeShapes Go.WideShapes Go.ChangeAt

theorem with_law1 {a b : Lab} {c d x y : Int} (ha : Good a) (hb : b = withL (withL a c x) d y) (hc : 0 < c) : ((b.lv d != y) || ((c != d) && (b.lv c != x))) = false := by
  have g1 := good_with ha hc x
  have e1 : b.lv d = y := by rw [hb, lv_with g1, if_pos rfl]
  have e2 : c ≠ d → b.lv c = x := fun h => by rw [hb, lv_with g1, if_neg h, lv_with ha, if_pos rfl]
  rw [e1]
  by_cases h : c = d
  · subst h; simp
  · rw [e2 h]; simp
theorem with_law2 {a b : Lab} {c d x y : Int} (ha : Good a) (hb : b = withL (withL a c x) d y) (hc : 0 < c) (e : Int) : (((e != c) && (e != d)) && (b.lv e != a.lv e)) = false := by
  have g1 := good_with ha hc x
  subst hb
  rw [lv_with g1, lv_with ha]
  by_cases h1 : e = c
  · subst h1; simp
  · by_cases h2 : e = d
    · subst h2; simp
    · rw [if_neg h2, if_neg h1]; simp
theorem with_law3 {a b : Lab} {c d x y : Int} (ha : Good a) (hb : b = withL (withL a c x) d y) (hc : 0 < c) (hd : 0 < d) (hl : b.ps.length ≤ 14) : (sameB (withL b d y) b && (((y == b.d) && (((withL b d b.d).ps.length : Int) == (b.ps.length : Int))) || ((y != b.d) && (((withL b d b.d).ps.length : Int) == IntKind.i64.wrap ((b.ps.length : Int) - 1))))) = true := by
  have g1 := good_with ha hc x
  have gb : Good b := hb ▸ good_with g1 hd y
  have e1 : b.lv d = y := by rw [hb, lv_with g1, if_pos rfl]
  have e2 : sameB (withL b d y) b = true := same_ext' (good_with gb hd y) gb fun e => by
    rw [lv_with gb]
    split
    · rename_i h; rw [h, e1]
    · rfl
  have e3 := with_default_len gb d
  rw [e2, e3, e1]
  by_cases h : y = b.d
  · rw [if_pos h, h]; simp
  · rw [if_neg h]
    have h0 : 0 < b.ps.length := by
      rcases hp : b.ps with _ | ⟨p, t⟩
      · exfalso
        apply h
        rw [← e1]
        unfold Lab.lv
        rw [hp]; rfl
      · simp
    have : IntKind.i64.wrap ((b.ps.length : Int) - 1) = ((b.ps.length - 1 : Nat) : Int) := by rw [IntKind.wrap_i64]; omega
    rw [this]
    simp [h]
set_option maxRecDepth 100000 in
theorem labelWith_walk (w : World) (v0 v1 v2 : Value) (a : Lab) (p q r t c d x y : Int) (h0 : (.st sdL a : Sym).on w noF v0) (h1 : (.st (Lay.arr (Lay.int .i64) 2) [p, q] : Sym).on w noF v1) (h2 : (.st (Lay.arr (Lay.int .i64) 2) [r, t] : Sym).on w noF v2) (fa : Fine a) (hc : 0 < c) (hd : 0 < d) (hcc : IntKind.u32.wrap (IntKind.i64.wrap (bits .and .i64 p 31 + 1)) = c) (hdd : IntKind.u32.wrap (IntKind.i64.wrap (bits .and .i64 q 31 + 1)) = d) (hxx : (IntKind.i64.wrap (r.tmod 5 + 5)).tmod 5 = x) (hyy : (IntKind.i64.wrap (t.tmod 5 + 5)).tmod 5 = y) : Calls Try.prog 11 #[v0, v1, v2] w fun e w' => e = .returned (.bool true) ∧ Below w.heap.size w w' := by
  have ha := fa.good
  have hbl : (withL (withL a c x) d y).ps.length ≤ 14 := (okl_with (okl_with fa.okl hc x) hd y).len
  have e62 := with_law1 (y := y) (d := d) (x := x) ha rfl hc
  have e83 := fun i : Nat => with_law2 (y := y) (d := d) (x := x) ha rfl hc ((i : Int) + 1)
  have e123 := with_law3 (y := y) (d := d) (x := x) ha rfl hc hd hbl
  go_enter Try.func11, Try.ntmps11
  refine wp_seq ?_
  refine flowC mixed (st0 (U := True) (N := 124) (e := [(0, true, .st sdL a), (1, true, .st (Lay.arr (Lay.int .i64) 2) [p, q]), (2, true, .st (Lay.arr (Lay.int .i64) 2) [r, t])]) (F := noF) rfl rfl (fok_none True w) ⟨⟨rfl, h0⟩, ⟨⟨rfl, h1⟩, ⟨⟨rfl, h2⟩, True.intro⟩⟩⟩) (by kernel_rfl) (by kernel_rfl) (cc rfl (p_box bx_36 g0 (od rfl id))
      (cc rfl (p_box bx_69 g0 (od rfl id))
      (cc rfl (p_box bx_69 g0 (od rfl id))
      (cc rfl (p_assign g0 (oc _)) cn)))) fun a1 w1 b1 s1 => ?_
  have z1 := b1
  refine wp_seq ?_
  refine wp_seq ?_
  refine flowC mixed (s1.keep (sc 3 rfl (sc 4 rfl (sc 5 rfl (sc 6 rfl sn))))) (by kernel_rfl) (by kernel_rfl) (cc rfl (p_call 48 g0 ox0 (fun _ _ => by kernel_rfl) f48)
      (cc rfl (p_not g0 (od rfl id)) cn)) fun a2 w2 b2 s2 => ?_
  have z2 := z1.trans (b2.mono z1.size)
  refine s2.cond 16 rfl (fun h => absurd h (by decide)) fun _ => ?_
  refine wp_skip ?_
  refine wp_seq ?_
  refine flowQ 3 mixed (s2.keep (sc 3 rfl (sc 4 rfl (sc 5 rfl (sc 6 rfl sn))))) (by kernel_rfl) (by kernel_rfl) (cc rfl (p_load Try.underlying36 rfl sz_36 g0 (od rfl id))
      (cc rfl (p_call 36 g0 (ox (od rfl id) ox0) (fun _ _ => by kernel_rfl) f36)
      (ca rfl (m_alloc al_39 nu39) cn))) (by kernel_rfl) (ss rfl rfl rfl rfl puts_st sz_39 rfl rfl ss0) fun a3 w3 b3 s3 => ?_
  have z3 := z2.trans (b3.mono z2.size)
  refine wp_seq ?_
  refine flowC mixed (s3.keep (sc 4 rfl (sc 5 rfl (sc 6 rfl (sc 7 rfl sn))))) (by kernel_rfl) (by kernel_rfl) (cc rfl (p_indexArr ia_69_0 rfl g0 (od rfl id))
      (cc rfl (p_loadI ld_3 g0 (od rfl id))
      (cc rfl (p_bin g0 (od rfl id) (oc _) b_and_3)
      (cc rfl (p_bin g0 (od rfl id) (oc _) b_add_3)
      (cc rfl (p_conv g0 (od rfl id) cv_3_70)
      (cc rfl (p_indexArr ia_69_1 rfl g0 (od rfl id))
      (cc rfl (p_loadI ld_3 g0 (od rfl id))
      (cc rfl (p_bin g0 (od rfl id) (oc _) b_and_3)
      (cc rfl (p_bin g0 (od rfl id) (oc _) b_add_3)
      (cc rfl (p_conv g0 (od rfl id) cv_3_70)
      (cc rfl (p_assign g0 (od rfl id))
      (cc rfl (p_assign g0 (od rfl id)) cn)))))))))))) fun a4 w4 b4 s4 => ?_
  have z4 := z3.trans (b4.mono z3.size)
  have s4 := (s4.more 8 (y := .int .u32 c) (int_as (s4.get 8 rfl) hcc)).more 9 (y := .int .u32 d) (int_as ((s4.more 8 (y := .int .u32 c) (int_as (s4.get 8 rfl) hcc)).get 9 rfl) hdd)
  refine wp_seq ?_
  refine flowC mixed (s4.keep (sc 5 rfl (sc 6 rfl (sc 7 rfl (sc 8 rfl (sc 9 rfl sn)))))) (by kernel_rfl) (by kernel_rfl) (cc rfl (p_indexArr ia_69_0 rfl g0 (od rfl id))
      (cc rfl (p_loadI ld_3 g0 (od rfl id))
      (cc rfl (p_bin g0 (od rfl id) (oc _) (b_rem_3 (by decide)))
      (cc rfl (p_bin g0 (od rfl id) (oc _) b_add_3)
      (cc rfl (p_bin g0 (od rfl id) (oc _) (b_rem_3 (by decide)))
      (cc rfl (p_indexArr ia_69_1 rfl g0 (od rfl id))
      (cc rfl (p_loadI ld_3 g0 (od rfl id))
      (cc rfl (p_bin g0 (od rfl id) (oc _) (b_rem_3 (by decide)))
      (cc rfl (p_bin g0 (od rfl id) (oc _) b_add_3)
      (cc rfl (p_bin g0 (od rfl id) (oc _) (b_rem_3 (by decide)))
      (cc rfl (p_assign g0 (od rfl id))
      (cc rfl (p_assign g0 (od rfl id)) cn)))))))))))) fun a5 w5 b5 s5 => ?_
  have z5 := z4.trans (b5.mono z4.size)
  have s5 := (s5.more 10 (y := .int .i64 x) (int_as (s5.get 10 rfl) hxx)).more 11 (y := .int .i64 y) (int_as ((s5.more 10 (y := .int .i64 x) (int_as (s5.get 10 rfl) hxx)).get 11 rfl) hyy)
  refine wp_seq ?_
  refine flowQ 8 mixed (s5.keep (sc 6 rfl (sc 7 rfl (sc 8 rfl (sc 9 rfl (sc 10 rfl (sc 11 rfl sn))))))) (by kernel_rfl) (by kernel_rfl) (cc rfl (p_load Try.underlying39 rfl sz_39 g0 (od rfl id))
      (cc rfl (p_move g0 (od rfl id))
      (cc rfl (p_move g0 (od rfl id))
      (cc rfl (p_call 50 g0 (ox (od rfl id) (ox (od rfl id) (ox (od rfl id) ox0))) (fun _ _ => by kernel_rfl) (f50 (by decide) hc))
      (cc rfl (p_move g0 (od rfl id))
      (cc rfl (p_move g0 (od rfl id))
      (cc rfl (p_call 50 g0 (ox (od rfl id) (ox (od rfl id) (ox (od rfl id) ox0))) (fun _ _ => by kernel_rfl) (f50 (by decide) hd))
      (ca rfl (m_alloc al_39 nu39) cn)))))))) (by kernel_rfl) (ss rfl rfl rfl rfl puts_st sz_39 rfl rfl ss0) fun a6 w6 b6 s6 => ?_
  have z6 := z5.trans (b6.mono z5.size)
  refine wp_seq ?_
  refine wp_seq ?_
  refine flowC mixed (s6.keep (sc 6 rfl (sc 7 rfl (sc 8 rfl (sc 9 rfl (sc 10 rfl (sc 11 rfl (sc 12 rfl sn)))))))) (by kernel_rfl) (by kernel_rfl) (cc rfl (p_load Try.underlying39 rfl sz_39 g0 (od rfl id))
      (cc rfl (p_move g0 (od rfl id))
      (cc rfl (p_call 51 g0 (ox (od rfl id) (ox (od rfl id) ox0)) (fun _ _ => by kernel_rfl) (f51 (by decide)))
      (cc rfl (p_move g0 (od rfl id))
      (cc rfl (p_bin g0 (od rfl id) (od rfl id) b_neq_3)
      (cc rfl (p_move g0 (od rfl id))
      (cc rfl (p_move (g1 rfl rfl) (od rfl (fun _ => rfl)))
      (cc rfl (p_move (g1 rfl rfl) (od rfl (fun _ => rfl)))
      (cc rfl (p_bin (g1 rfl rfl) (od rfl id) (od rfl id) b_neq_70)
      (cc rfl (p_move (g1 rfl rfl) (od rfl id))
      (cc rfl (p_load Try.underlying39 rfl sz_39 (g1 rfl rfl) (od rfl (fun _ => rfl)))
      (cc rfl (p_move (g1 rfl rfl) (od rfl (fun _ => rfl)))
      (cc rfl (p_call 51 (g1 rfl rfl) (ox (od rfl id) (ox (od rfl id) ox0)) (fun _ _ => by kernel_rfl) (f51 (by decide)))
      (cc rfl (p_move (g1 rfl rfl) (od rfl (fun _ => rfl)))
      (cc rfl (p_bin (g1 rfl rfl) (od rfl id) (od rfl id) b_neq_3)
      (cc rfl (p_and (g1 rfl rfl) (od rfl id) (od rfl id))
      (cc rfl (p_or g0 (od rfl id) (od rfl id)) cn))))))))))))))))) fun a7 w7 b7 s7 => ?_
  have z7 := z6.trans (b7.mono z6.size)
  refine s7.cond 62 rfl (fun h => absurd h (by rw [e62]; decide)) fun _ => ?_
  refine wp_skip ?_
  refine wp_seq ?_
  refine wp_seq ?_
  refine flowC mixed (s7.keep (sc 6 rfl (sc 7 rfl (sc 8 rfl (sc 9 rfl (sc 11 rfl (sc 12 rfl sn))))))) (by kernel_rfl) (by kernel_rfl) (cc rfl (p_assign g0 (oc _)) cn) fun a8 w8 b8 s8 => ?_
  have z8 := z7.trans (b8.mono z7.size)
  refine wp_block ?_
  refine wp_rangeV (fun i => .int .u32 ((i : Int) + 1)) (fun i => by show (((i : Int) + 1) - (((0 : Nat) : Int) + 1)).toNat = i; omega) 44 13 (fun i => []) (fun _ _ => True) (s8.keep (sc 13 rfl (sc 6 rfl (sc 7 rfl (sc 8 rfl (sc 9 rfl (sc 11 rfl (sc 12 rfl sn)))))))) z8 True.intro fun i a9 w9 hi1 s9 z9 x9 => ?_
  refine wp_seq ?_
  refine wp_seq ?_
  refine flowC mixed (s9.keep (sc 6 rfl (sc 7 rfl (sc 8 rfl (sc 9 rfl (sc 11 rfl (sc 12 rfl (sc 13 rfl sn)))))))) (by kernel_rfl) (by kernel_rfl) (cc rfl (p_move g0 (od rfl id))
      (cc rfl (p_bin g0 (od rfl id) (oc _) b_lss_70) cn)) fun a10 w10 b10 s10 => ?_
  have z10 := z9.trans (b10.mono z9.size)
  refine s10.cond 64 rfl (fun h => ?_) (fun h => ?_)
  · -- true
    have hlt1 : i < 44 := by have := of_decide_eq_true h; omega
    refine wp_skip ?_
    refine wp_seq ?_
    refine wp_block ?_
    refine wp_seq ?_
    refine flowC mixed (s10.keep (sc 6 rfl (sc 7 rfl (sc 8 rfl (sc 9 rfl (sc 11 rfl (sc 12 rfl (sc 13 rfl (sc 63 rfl (sc 64 rfl sn)))))))))) (by kernel_rfl) (by kernel_rfl) (cc rfl (p_move g0 (od rfl id))
        (cc rfl (p_move g0 (od rfl id))
        (cc rfl (p_bin g0 (od rfl id) (od rfl id) b_neq_70)
        (cc rfl (p_move g0 (od rfl id))
        (cc rfl (p_move (g1 rfl rfl) (od rfl (fun _ => rfl)))
        (cc rfl (p_move (g1 rfl rfl) (od rfl (fun _ => rfl)))
        (cc rfl (p_bin (g1 rfl rfl) (od rfl id) (od rfl id) b_neq_70)
        (cc rfl (p_and g0 (od rfl id) (od rfl id))
        (cc rfl (p_move g0 (od rfl id))
        (cc rfl (p_load Try.underlying39 rfl sz_39 (g1 rfl rfl) (od rfl (fun _ => rfl)))
        (cc rfl (p_move (g1 rfl rfl) (od rfl (fun _ => rfl)))
        (cc rfl (p_call 51 (g1 rfl rfl) (ox (od rfl id) (ox (od rfl id) ox0)) (fun _ _ => by kernel_rfl) (f51 (by decide)))
        (cc rfl (p_load Try.underlying39 rfl sz_39 (g1 rfl rfl) (od rfl (fun _ => rfl)))
        (cc rfl (p_move (g1 rfl rfl) (od rfl (fun _ => rfl)))
        (cc rfl (p_call 51 (g1 rfl rfl) (ox (od rfl id) (ox (od rfl id) ox0)) (fun _ _ => by kernel_rfl) (f51 (by decide)))
        (cc rfl (p_bin (g1 rfl rfl) (od rfl id) (od rfl id) b_neq_3)
        (cc rfl (p_and g0 (od rfl id) (od rfl id)) cn))))))))))))))))) fun a11 w11 b11 s11 => ?_
    have z11 := z10.trans (b11.mono z10.size)
    refine s11.cond 83 rfl (fun h => absurd h (by rw [e83 i]; decide)) fun _ => ?_
    refine wp_skip ?_
    refine flowT (s11.keep (sc 6 rfl (sc 7 rfl (sc 8 rfl (sc 9 rfl (sc 11 rfl (sc 12 rfl (sc 13 rfl (sc 63 rfl (sc 64 rfl (sc 67 rfl (sc 68 rfl (sc 69 rfl (sc 70 rfl (sc 71 rfl (sc 72 rfl (sc 73 rfl (sc 74 rfl (sc 75 rfl (sc 76 rfl (sc 77 rfl (sc 78 rfl (sc 79 rfl (sc 80 rfl (sc 81 rfl (sc 82 rfl (sc 83 rfl sn))))))))))))))))))))))))))) (by kernel_rfl) (cc rfl (p_move g0 (od rfl id))
        (cc rfl (p_bin g0 (od rfl id) (oc _) (incu_70 (by omega)))
        (cc rfl (p_assign g0 (od rfl id)) cn))) fun a12 w12 b12 s12 => ?_
    have z12 := z11.trans (b12.mono z11.size)
    exact ⟨hlt1, s12.to _ ⟨rfl, rfl, rfl, rfl, rfl, rfl, rfl, True.intro⟩, z12, True.intro⟩
  · -- false
    refine wp_exit ?_
    refine wp_seq ?_
    refine flowC mixed (s10.keep (sc 6 rfl (sc 7 rfl (sc 8 rfl (sc 9 rfl (sc 11 rfl (sc 12 rfl (sc 13 rfl sn)))))))) (by kernel_rfl) (by kernel_rfl) (cc rfl (p_load Try.underlying39 rfl sz_39 g0 (od rfl id))
        (cc rfl (p_move g0 (od rfl id))
        (cc rfl (p_fieldAddr pt39_0 fa_39_0 g0 (od rfl id))
        (cc rfl (p_loadI ld_3 g0 (od rfl id))
        (cc rfl (p_call 50 g0 (ox (od rfl id) (ox (od rfl id) (ox (od rfl id) ox0))) (fun _ _ => by kernel_rfl) (f50 (by decide) hd))
        (cc rfl (p_fieldV rfl pt39_1 fo_39_1 g0 (od rfl id))
        (cc rfl (p_len ln_37 g0 (od rfl id))
        (cc rfl (p_assign g0 (od rfl id)) cn)))))))) fun a13 w13 b13 s13 => ?_
    have z13 := z10.trans (b13.mono z10.size)
    refine wp_seq ?_
    refine flowC mixed (s13.keep (sc 7 rfl (sc 8 rfl (sc 9 rfl (sc 11 rfl (sc 12 rfl (sc 13 rfl (sc 14 rfl sn)))))))) (by kernel_rfl) (by kernel_rfl) (cc rfl (p_load Try.underlying39 rfl sz_39 g0 (od rfl id))
        (cc rfl (p_move g0 (od rfl id))
        (cc rfl (p_move g0 (od rfl id))
        (cc rfl (p_call 50 g0 (ox (od rfl id) (ox (od rfl id) (ox (od rfl id) ox0))) (fun _ _ => by kernel_rfl) (f50 (by decide) hd))
        (cc rfl (p_load Try.underlying39 rfl sz_39 g0 (od rfl id))
        (cc rfl (p_call 52 g0 (ox (od rfl id) (ox (od rfl id) ox0)) (fun _ _ => by kernel_rfl) (f52 (by decide)))
        (cc rfl (p_move g0 (od rfl id))
        (cc rfl (p_move (g1 rfl rfl) (od rfl (fun _ => rfl)))
        (cc rfl (p_fieldAddr pt39_0 fa_39_0 (g1 rfl rfl) (od rfl (fun _ => rfl)))
        (cc rfl (p_loadI ld_3 (g1 rfl rfl) (od rfl id))
        (cc rfl (p_bin (g1 rfl rfl) (od rfl id) (od rfl id) b_eql_3)
        (cc rfl (p_move (g1 rfl rfl) (od rfl id))
        (cc rfl (p_move (g1 rfl rfl) (od rfl (fun _ => rfl)))
        (cc rfl (p_fieldAddr pt39_1 fa_39_1 (g1 rfl rfl) (od rfl (fun _ => rfl)))
        (cc rfl (p_load1 rfl ld_37 (g1 rfl rfl) (od rfl id))
        (cc rfl (p_len ln_37 (g1 rfl rfl) (od rfl id))
        (cc rfl (p_bin (g1 rfl rfl) (od rfl id) (od rfl id) b_eql_3)
        (cc rfl (p_and (g1 rfl rfl) (od rfl id) (od rfl id))
        (cc rfl (p_move (g1 rfl rfl) (od rfl id))
        (cc rfl (p_move (g1 rfl rfl) (od rfl (fun _ => rfl)))
        (cc rfl (p_fieldAddr pt39_0 fa_39_0 (g1 rfl rfl) (od rfl (fun _ => rfl)))
        (cc rfl (p_loadI ld_3 (g1 rfl rfl) (od rfl id))
        (cc rfl (p_bin (g1 rfl rfl) (od rfl id) (od rfl id) b_neq_3)
        (cc rfl (p_move (g1 rfl rfl) (od rfl id))
        (cc rfl (p_move (g1 rfl rfl) (od rfl (fun _ => rfl)))
        (cc rfl (p_fieldAddr pt39_1 fa_39_1 (g1 rfl rfl) (od rfl (fun _ => rfl)))
        (cc rfl (p_load1 rfl ld_37 (g1 rfl rfl) (od rfl id))
        (cc rfl (p_len ln_37 (g1 rfl rfl) (od rfl id))
        (cc rfl (p_bin (g1 rfl rfl) (od rfl id) (oc _) b_sub_3)
        (cc rfl (p_bin (g1 rfl rfl) (od rfl id) (od rfl id) b_eql_3)
        (cc rfl (p_and (g1 rfl rfl) (od rfl id) (od rfl id))
        (cc rfl (p_or (g1 rfl rfl) (od rfl id) (od rfl id))
        (cc rfl (p_and g0 (od rfl id) (od rfl id))
        (cc rfl (p_assign g0 (od rfl id)) cn)))))))))))))))))))))))))))))))))) fun a14 w14 b14 s14 => ?_
    have z14 := z13.trans (b14.mono z13.size)
    exact wp_ret (ret_law (fn := Try.f11) s14 6 rfl rfl e123 z14)

set_option maxRecDepth 100000 in
theorem labelWith_lifted (os : Os) (started : os.Started) (H : Type) (enc : TypeId × Value → H) :
    ReturnsInHanded {} Try.checked os 11 .any (Rows.labelWithSpec.pre6 enc Try.prog Try.f11 Rows.labelWithRow.domain false) (Rows.labelWithSpec.post enc Try.prog Try.f11 false true false false) := by
  refine lifted_of (C := Try.checked) laidOut own started (by kernel_rfl) Try.func11 rfl Try.underlying4 (by kernel_rfl) rfl
    (fun ds hds => by match ds, hds with | [_, _, _], _ => rfl)
    (ChangeSpec.witness6 (enc := enc) (C := Try.checked) false ⟨#[], #[.agg #[.int .i64 0, .slice none 0 0], .agg #[.int .i64 0, .int .i64 0], .agg #[.int .i64 0, .int .i64 0]], []⟩ 8 (by kernel_rfl) (by kernel_rfl) (by kernel_rfl) (by kernel_rfl)) ?_
  intro w base args ds ps hval0 hA0 hlt
  have hval : ∀ (j : Nat) t v, Try.f11.params[j]? = some t → args[j]? = some v → Value.okWide Try.prog w .any base t v := hval0
  have hA : DataW.TrodAll enc Try.prog w 0 (fun _ => true) true Try.f11.params.toList args.toList ds ps := hA0
  rw [Try.params11] at hA hval
  obtain ⟨v0, vs0, d0, ds0, p0, q0, hargs, rfl, rfl, h0, r0⟩ := trodAll_cons hA
  obtain ⟨v1, vs1, d1, ds1, p1, q1, rfl, rfl, rfl, h1, r1⟩ := trodAll_cons r0
  obtain ⟨v2, vs2, d2, ds2, p2, q2, rfl, rfl, rfl, h2, r2⟩ := trodAll_cons r1
  obtain ⟨rfl, rfl, rfl⟩ := trodAll_nil r2
  obtain rfl : args = #[v0, v1, v2] := by cases args; simp_all
  obtain ⟨x0, o0, s0⟩ := open_st Try.underlying36 rfl opens_seed (hval 0 36 v0 rfl rfl) h0 (fun x hx => hlt x (List.mem_append_left _ hx))
  obtain ⟨x1, o1, s1⟩ := open_st Try.underlying69 rfl opens_int2 (hval 1 69 v1 rfl rfl) h1 (fun x hx => hlt x (List.mem_append_right _ (List.mem_append_left _ hx)))
  obtain ⟨x2, o2, s2⟩ := open_st Try.underlying69 rfl opens_int2 (hval 2 69 v2 rfl rfl) h2 (fun x hx => hlt x (List.mem_append_right _ (List.mem_append_right _ (List.mem_append_left _ hx))))
  exact (by obtain ⟨p, q, rfl⟩ := two s1; obtain ⟨r, t, rfl⟩ := two s2; exact labelWith_walk w v0 v1 v2 x0 p q r t _ _ _ _ s0 s1 s2 (seed_fine s0) (by omega) (by omega) (cat31 p) (cat31 q) (lev5 r) (lev5 t))

set_option maxRecDepth 100000 in
theorem labelWith_facts : joinedFacts Try.pinned.checked.prog 11 Try.f11 Rows.labelWithSpec Rows.labelWithRow = true := by
  show joinedFacts Try.prog 11 Try.f11 Rows.labelWithSpec Rows.labelWithRow = true
  unfold joinedFacts
  rw [mayEnter_ok, liftsFinal_ok, make_ok]
  kernel_rfl
theorem labelWith_holds : Rows.LabelWithSaid :=
  OpenClaim.holds_of_wide 11 Try.f11 rfl rfl rfl rfl rfl rfl rfl ⟨rfl, rfl, rfl, rfl, rfl⟩ rfl rfl rfl rfl rfl (by kernel_rfl) Try.func11 labelWith_facts
    (of_decide_eq_true (by kernel_rfl)) (by unfold Func.isWrapper; rw [if_neg (of_decide_eq_false (by kernel_rfl))]; exact ⟨rfl, rfl⟩)
    (fun os started H enc _ => labelWith_lifted os started H enc)
#print axioms labelWith_holds

end Go.Proofs.Ytihddficgpjgpaa.X
