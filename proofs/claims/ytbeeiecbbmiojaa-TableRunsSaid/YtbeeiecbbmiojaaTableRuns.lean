/- TableRuns: call by call objects come into containers, and go with all that is in them, as the document has it. -/
import Derived.Test.YtbeeiecbbmiojaaYrz
import Derived.Test.YtbeeiecbbmiojaaHead
namespace Go.Proofs.Ytbeeiecbbmiojaa.Y
open Go.RowKit Go.ChangeShapes Go.WideShapes Go.ChangeAt Go.ChangeMaps Go.MapKept

set_option maxRecDepth 100000 in
set_option maxHeartbeats 3200000 in
/-- The walk of the law on calls of a table. -/
theorem tableRuns_walk {w : World} {v0 : Value} {l : List CR} (h0 : (.one (Lay.sl crL) l : Sym).on w noF v0) : Calls Try.prog 11 #[v0] w fun e w' => ∃ v, e = .returned v ∧ v = .bool true ∧ Below w.heap.size w w' := by
  have z0 : OnlyB (fun _ => False) w w := OnlyB.refl _ _
  go_enter Try.func11, Try.ntmps11
  refine wp_seq ?_
  refine flowC mixed (st0 (U := False) (N := 84) (e := [(0, true, .val (v0))]) (F := noF) rfl rfl (fok_no _ _) ⟨⟨rfl, rfl⟩, True.intro⟩) (by kernel_rfl) (by kernel_rfl) (cc rfl (p_assign g0 (oc _)) cn) fun a1 w1 b1 s1 => ?_
  have z1 := z0.below b1
  refine wp_seq ?_
  refine wp_seq ?_
  refine wp_region_lit ?_
  refine with_st (s1.keep (sc 0 rfl sn)) fun s1 => ?_
  show wpList _ _ _ (_ :: _) _ _
  refine callO [] s1 (by simp [Region.wanted]) (fun _ _ => by kernel_rfl) rfl (by decide) (show Calls Try.prog 13 #[] w1 _ from by exact cFit) (vv 0 rfl vn) fun v2 a2 w2 hR2 s2 => ?_
  obtain ⟨rfl, b2⟩ := hR2
  have z2 := z1.below b2
  refine chainK 1 (cc rfl (p_not g0 (od rfl id)) cn) (by kernel_rfl) s2 fun a3 w3 b3 s3 => ?_
  have z3 := z2.below b3
  refine wpList_done ?_
  refine s3.cond 13 rfl (fun h => absurd h (by simp)) fun _ => ?_
  refine wp_skip ?_
  refine wp_seq ?_
  refine wp_seq ?_
  have s3 := s3.more 0 (y := .both (.val v0) (.one (Lay.sl crL) l)) ⟨s3.get 0 rfl, at_in h0 z3 (s3.get 0 rfl)⟩
  refine flowC mixed (s3.keep (sc 0 rfl sn)) (by kernel_rfl) (by kernel_rfl) (cc rfl (p_move g0 (od rfl id))
      (cc rfl (p_len ln_91 g0 (od2 rfl id))
      (cc rfl (p_bin g0 (od rfl id) (oc _) b_gtr_3) cn))) fun a4 w4 b4 s4 => ?_
  have z4 := z3.below b4
  have s4 := s4.more 0 (y := .val v0) (s4.get 0 rfl).1
  refine s4.cond 16 rfl (fun h16 => ?_) (fun h16 => ?_)
  · -- true
    refine wp_seq ?_
    refine flowC mixed (s4.keep (sc 0 rfl sn)) (by kernel_rfl) (by kernel_rfl) (cc rfl (p_assign g0 (oc _)) cn) fun a5 w5 b5 s5 => ?_
    have z5 := z4.below b5
    exact wp_ret (ret_o (fn := Try.f11) (R := fun v w' => v = .bool true ∧ Below w.heap.size w w') (v := .bool true) s5 2 rfl rfl ⟨rfl, z5.to_below (fun _ _ h => h) (Nat.le_refl _)⟩)
  · -- false
    have hl200 : l.length ≤ 200 := by have := of_decide_eq_false h16; (try dsimp only at this); omega
    refine wp_skip ?_
    refine wp_seq ?_
    refine wp_region_lit ?_
    refine with_st (s4.keep (sc 0 rfl sn)) fun s4 => ?_
    show wpList _ _ _ (_ :: _) _ _
    refine callO (R := fun v w' => ∃ gT gM, v = ptrV gT ∧ TabAt w' w4.heap.size gT gM T0 (fun _ => .slice none 0 0) ∧ Below w4.heap.size w4 w') [] s4 (by simp [Region.wanted]) (fun _ _ => by kernel_rfl) rfl (by decide) (show Calls Try.prog 14 #[] w4 _ from by exact cNew) (vv 0 rfl vn) fun v6 a6 w6 hR6 s6 => ?_
    obtain ⟨gT, gM, rfl, hT, b6⟩ := hR6
    have hbase := z4.size
    have z6 := z4.below b6
    obtain ⟨B, eB⟩ : ∃ B, B = w4.heap.size := ⟨_, rfl⟩
    rw [← eB] at hT hbase
    refine chainK 1 (cc rfl (p_assign g0 (od rfl id)) cn) (by kernel_rfl) s6 fun a7 w7 b7 s7 => ?_
    have z7 := z6.below b7
    have hT := hT.below b7
    refine wpList_done ?_
    refine wp_seq ?_
    refine wp_region_lit ?_
    refine with_st (s7.keep (sc 0 rfl (sc 3 rfl sn))) fun s7 => ?_
    show wpList _ _ _ (_ :: _) _ _
    have lM := hT.mp.lt
    have hBw := (Nat.le_of_lt (Nat.lt_of_le_of_lt hT.bT hT.tb.lt))
    refine mk_on .u64 s7 rfl rfl (by decide) rfl (vv 0 rfl (vv 3 rfl vn)) fun gm a8 w8 hM ngm b8 s8 => ?_
    have hbm : B ≤ gm := Nat.le_trans hBw ngm
    have hnm : gm ≠ gM := fun e => absurd lM (Nat.not_lt.2 (e ▸ ngm))
    have hT := hT.below b8
    have z8 := z7.below b8
    refine chainK 1 (cc rfl (p_assign g0 (od rfl id)) cn) (by kernel_rfl) s8 fun a9 w9 b9 s9 => ?_
    have z9 := z8.below b9
    have hT := hT.below b9
    have hM := hM.below b9
    refine wpList_done ?_
    refine wp_seq ?_
    refine wp_region_lit ?_
    refine with_st (s9.keep (sc 0 rfl (sc 3 rfl (sc 4 rfl sn)))) fun s9 => ?_
    show wpList _ _ _ (_ :: _) _ _
    have hBw := (Nat.le_of_lt (Nat.lt_of_le_of_lt hT.bT hT.tb.lt))
    refine alloc_on (u := 29) (z := #[.slice none 0 0]) s9 (by simp [Region.wanted]) rfl (by decide) (al_29 _ _) (vv 0 rfl (vv 3 rfl (vv 4 rfl vn))) fun gO a10 w10 hC ngO b10 s10 => ?_
    have hbo : B ≤ gO := Nat.le_trans hBw ngO
    have hT := hT.below b10
    have hM := hM.below b10
    have z10 := z9.below b10
    have hP : PAt w10 B gT gM gm gO T0 (fun _ => .slice none 0 0) [] (.slice none 0 0) := ⟨hT, hM, hC, World.ownsRow_nil _ _ _ _, hbm, hbo, hnm, fun _ _ h => by cases h⟩
    refine wpList_done ?_
    refine wp_seq ?_
    refine wp_seq ?_
    have s10 := s10.more 0 (y := .both (.val v0) (.one (Lay.sl crL) l)) ⟨s10.get 0 rfl, at_in h0 z10 (s10.get 0 rfl)⟩
    refine flowC mixed (s10.keep (sc 0 rfl (sc 3 rfl (sc 4 rfl (sc 5 rfl sn))))) (by kernel_rfl) (by kernel_rfl) (cc rfl (p_move g0 (od rfl id))
        (cc rfl (p_len ln_91 g0 (od2 rfl id))
        (cc rfl (p_move g0 (oc _)) cn))) fun a11 w11 b11 s11 => ?_
    have z11 := z10.below b11
    have hP := hP.below b11
    have s11 := s11.more 19 (y := .val v0) (s11.get 19 rfl).1
    refine wp_block ?_
    refine wp_count l.length 21 (fun i a wr => ∃ t kv mm v, PAt wr B gT gM gm gO t kv mm v ∧ RInv t mm ∧ LenB t i ∧ OnlyB (fun _ => False) w wr ∧ StE False 84 [(3, true, .val (ptrV gT)), (4, true, .val (.map (some gm))), (5, true, .val (ptrV gO)), (19, true, .val v0), (20, true, .int .i64 (l.length : Int)), (21, true, .int .i64 (i : Int))] noF a wr) (fun _ _ _ ⟨_, _, _, _, _, _, _, _, h⟩ => h.get 21 rfl) ⟨_, _, [], _, hP, rinv_0, (fun _ _ h => by cases h), z11, s11.to _ ⟨rfl, rfl, rfl, rfl, rfl, rfl, True.intro⟩⟩ fun i a12 w12 hi12 hJ => ?_
    obtain ⟨t, kv, mm, v, hP, hI, hL, z12, s12⟩ := hJ
    refine wp_seq ?_
    refine flowC mixed (s12.keep (sc 3 rfl (sc 4 rfl (sc 5 rfl (sc 19 rfl (sc 20 rfl (sc 21 rfl sn))))))) (by kernel_rfl) (by kernel_rfl) (cc rfl (p_bin g0 (od rfl id) (od rfl id) b_lss_3) cn) fun a13 w13 b13 s13 => ?_
    have z13 := z12.below b13
    have hP := hP.below b13
    refine wp_seq ?_
    refine s13.cond 22 rfl (fun h22 => ?_) (fun h22 => ?_)
    · -- true
      have hlt : i < l.length := by simpa using h22
      obtain ⟨⟨xk, xn, xh, xw, xo⟩, ex⟩ : ∃ x, l[i]? = some x := ⟨_, List.getElem?_eq_getElem hlt⟩
      refine wp_skip ?_
      refine wp_seq ?_
      refine wp_block ?_
      refine wp_seq ?_
      refine wp_region_lit ?_
      refine with_st (s13.keep (sc 3 rfl (sc 4 rfl (sc 5 rfl (sc 19 rfl (sc 20 rfl (sc 21 rfl sn))))))) fun s13 => ?_
      have s13 := s13.more 19 (y := .both (.val v0) (.one (Lay.sl crL) l)) ⟨s13.get 19 rfl, at_in h0 z13 (s13.get 19 rfl)⟩
      refine chainK 2 (cc rfl (p_index ix_91 ex g0 (od2 rfl id) (od rfl id))
          (cc rfl (p_load (L := crL) Try.underlying94 rfl sz_94 g0 (od rfl id)) cn)) (by kernel_rfl) s13 fun a14 w14 b14 s14 => ?_
      have z14 := z13.below b14
      have hP := hP.below b14
      have s14 := s14.more 24 (y := .val (cV ⟨xk, xn, xh, xw, xo⟩)) (at_cr (s14.get 24 rfl))
      have s14 := s14.more 19 (y := .val v0) (s14.get 19 rfl).1
      show wpList _ _ _ (_ :: _) _ _
      have hwb7 := z14.size
      refine alloc_on (u := 94) (z := cA zR) s14 (by simp [Region.wanted]) rfl (by decide) (al_94 _ _) (vv 3 rfl (vv 4 rfl (vv 5 rfl (vv 19 rfl (vv 20 rfl (vv 21 rfl (vv 24 rfl vn))))))) fun g7 a15 w15 h7 ng7 b15 s15 => ?_
      have hg7 := Nat.le_trans hwb7 ng7
      have hP := hP.below b15
      have z15 := z14.below b15
      show wpList _ _ _ (_ :: _) _ _
      refine cells_on (vs := cL ⟨xk, xn, xh, xw, xo⟩) s15 rfl rfl rfl (s15.get 7 rfl) (s15.get 24 rfl) rfl h7 (by simp) (sz_94c _) cL_one (vv 3 rfl (vv 4 rfl (vv 5 rfl (vv 19 rfl (vv 20 rfl (vv 21 rfl (vv 7 rfl vn))))))) fun a16 w16 hq16 gS s16 => ?_
      have hP := hP.fresh h7 gS
      have h7 : Blk w16 g7 94 (cA ⟨xk, xn, xh, xw, xo⟩) := hq16
      have z16 := z15.grown gS (fun x hx e => absurd hg7 (Nat.not_le.2 (by injection e with e; rw [e]; exact hx)))
      refine wpList_done ?_
      refine wp_seq ?_
      refine wp_region_lit ?_
      refine with_st (s16.keep (sc 3 rfl (sc 4 rfl (sc 5 rfl (sc 7 rfl (sc 19 rfl (sc 20 rfl (sc 21 rfl sn)))))))) fun s16 => ?_
      have s16 := s16.more 7 (y := .bp g7 94 (cA ⟨xk, xn, xh, xw, xo⟩) 0) (at_obj h7 (s16.get 7 rfl))
      refine chainK 3 (cc rfl (p_move g0 (od rfl id))
          (cc rfl (p_move g0 (od rfl id))
          (cc rfl (p_ldC g0 (od rfl id)) cn))) (by kernel_rfl) s16 fun a17 w17 b17 s17 => ?_
      have z17 := z16.below b17
      have hP := hP.below b17
      have h7 := h7.below b17 h7.lt
      have s17 := s17.more 7 (y := .val (ptrV g7)) (s17.get 7 rfl).1
      show wpList _ _ _ (_ :: _) _ _
      refine callO [.tmp 25, .tmp 26, .tmp 5, .tmp 27] s17 (by simp [Region.wanted]) (fun _ _ => by kernel_rfl) rfl (by decide) (show Calls Try.prog 34 #[a17.tmps.getD 25 undef, a17.tmps.getD 26 undef, a17.tmps.getD 5 undef, a17.tmps.getD 27 undef] w17 _ from by rw [show a17.tmps.getD 25 undef = ptrV gT from s17.get 25 rfl, show a17.tmps.getD 26 undef = .map (some gm) from s17.get 26 rfl, show a17.tmps.getD 5 undef = ptrV gO from s17.get 5 rfl, show a17.tmps.getD 27 undef = cV ⟨xk, xn, xh, xw, xo⟩ from s17.get 27 rfl]; exact cPlay hP hI hL (by omega)) (vv 3 rfl (vv 4 rfl (vv 5 rfl (vv 19 rfl (vv 20 rfl (vv 21 rfl vn)))))) fun v18 a18 w18 hR18 s18 => ?_
      obtain ⟨rfl, t', kv', mm', v', hP, hI, hL, zP⟩ := hR18
      obtain ⟨A', c', rfl⟩ := own_slice hP.row
      have z18 := z17.trans zP (fun x hx hS => absurd (Nat.le_trans hbase hS) (Nat.not_le.2 hx))
      refine chainK 2 (cc rfl (p_not g0 (od rfl id))
          (cc rfl (p_move g0 (od rfl id)) cn)) (by kernel_rfl) s18 fun a19 w19 b19 s19 => ?_
      have z19 := z18.below b19
      have hP := hP.below b19
      have s19 := s19.more 30 (y := .bool false) (s19.get 30 rfl)
      have s19 := s19.more 5 (y := .bp gO 29 #[(.slice A' (nms mm').length c')] 0) (at_obj hP.cell (s19.get 5 rfl))
      refine chainK 3 (cc rfl (p_move (g1 rfl rfl) (od rfl (fun _ => rfl)))
          (cc rfl (p_move (g1 rfl rfl) (od rfl (fun _ => rfl)))
          (cc rfl (p_ldB ld_29 rfl (g1 rfl rfl) (od rfl (fun _ => rfl))) cn))) (by kernel_rfl) s19 fun a20 w20 b20 s20 => ?_
      have z20 := z19.below b20
      have hP := hP.below b20
      have s20 := s20.more 5 (y := .val (ptrV gO)) (s20.get 5 rfl).1
      show wpList _ _ _ (_ :: _) _ _
      refine callO [.tmp 31, .tmp 32, .tmp 33] s20 (Eq.trans (s20.wanted (g1 rfl rfl) rfl) rfl) (fun _ _ => by kernel_rfl) rfl (by decide) (show Calls Try.prog 35 #[a20.tmps.getD 31 undef, a20.tmps.getD 32 undef, a20.tmps.getD 33 undef] w20 _ from by rw [show a20.tmps.getD 31 undef = ptrV gT from s20.get 31 rfl, show a20.tmps.getD 32 undef = .map (some gm) from s20.get 32 rfl, show a20.tmps.getD 33 undef = (.slice A' (nms mm').length c') from s20.get 33 rfl]; exact cSame hP.tab hP.mp hP.row hI) (vv 3 rfl (vv 4 rfl (vv 5 rfl (vv 19 rfl (vv 20 rfl (vv 21 rfl (vv 30 rfl vn))))))) fun v21 a21 w21 hR21 s21 => ?_
      obtain ⟨rfl, b21⟩ := hR21
      have hP := hP.below b21
      have z21 := z20.below b21
      refine chainK 2 (cc rfl (p_not (g1 rfl rfl) (od rfl (fun _ => rfl)))
          (cc rfl (p_or g0 (od rfl id) (od rfl id)) cn)) (by kernel_rfl) s21 fun a22 w22 b22 s22 => ?_
      have z22 := z21.below b22
      have hP := hP.below b22
      refine wpList_done ?_
      refine s22.cond 36 rfl (fun h => absurd h (by simp)) fun _ => ?_
      refine wp_skip ?_
      refine flowT (s22.keep (sc 3 rfl (sc 4 rfl (sc 5 rfl (sc 19 rfl (sc 20 rfl (sc 21 rfl (sc 30 rfl (sc 34 rfl (sc 35 rfl (sc 36 rfl sn))))))))))) (by kernel_rfl) (cc rfl (p_bin g0 (od rfl id) (oc _) (inc_3 (by omega)))
          (cc rfl (p_move g0 (od rfl id)) cn)) fun a23 w23 b23 s23 => ?_
      have z23 := z22.below b23
      have hP := hP.below b23
      exact ⟨hlt, _, _, _, _, hP, hI, hL, z23, s23.to _ ⟨rfl, rfl, rfl, rfl, rfl, rfl, True.intro⟩⟩
    · -- false
      obtain rfl : i = l.length := by have := of_decide_eq_false h22; (try dsimp only at this); omega
      refine wp_exit ?_
      refine wp_seq ?_
      refine wp_seq ?_
      refine flowC mixed (s13.keep (sc 3 rfl (sc 4 rfl (sc 5 rfl (sc 19 rfl (sc 20 rfl (sc 21 rfl sn))))))) (by kernel_rfl) (by kernel_rfl) (cc rfl (p_move g0 (oc _)) cn) fun a24 w24 b24 s24 => ?_
      have z24 := z13.below b24
      have hP := hP.below b24
      refine wp_block ?_
      have hT := hP.tab
      have hM := hP.mp
      have h16m := hI.le16
      refine wp_loopK (fun K a wr => ∃ x : Nat, K = 16 - x ∧ x ≤ 16 ∧ TabAt wr B gT gM t kv ∧ MapAt wr gm .u64 (mV mm) ∧ OnlyB (fun _ => False) w wr ∧ StE False 84 [(3, true, .val (ptrV gT)), (4, true, .val (.map (some gm))), (38, true, .int .u64 (x : Int))] noF a wr) 16 ⟨0, rfl, by omega, hT, hM, z24, s24.to _ ⟨rfl, rfl, rfl, True.intro⟩⟩ fun K a25 w25 hJ => ?_
      obtain ⟨x, rfl, hx16, hT, hM, z25, s25⟩ := hJ
      refine wp_seq ?_
      refine flowC mixed (s25.keep (sc 3 rfl (sc 4 rfl (sc 38 rfl sn)))) (by kernel_rfl) (by kernel_rfl) (cc rfl (p_bin g0 (od rfl id) (oc _) b_lss_28) cn) fun a26 w26 b26 s26 => ?_
      have z26 := z25.below b26
      have hT := hT.below b26
      have hM := hM.below b26
      refine wp_seq ?_
      refine s26.cond 39 rfl (fun h39 => ?_) (fun h39 => ?_)
      · -- true
        have hx : x < 16 := by have := of_decide_eq_true h39; (try dsimp only at this); omega
        refine wp_skip ?_
        refine wp_seq ?_
        refine wp_block ?_
        refine wp_seq ?_
        refine flowC mixed (s26.keep (sc 3 rfl (sc 4 rfl (sc 38 rfl (sc 39 rfl sn))))) (by kernel_rfl) (by kernel_rfl) (cc rfl (p_move g0 (od rfl id))
            (cc rfl (p_assign g0 (od rfl id)) cn)) fun a27 w27 b27 s27 => ?_
        have z27 := z26.below b27
        have hT := hT.below b27
        have hM := hM.below b27
        refine wp_seq ?_
        refine flowC mixed (s27.keep (sc 3 rfl (sc 4 rfl (sc 8 rfl (sc 38 rfl (sc 39 rfl (sc 40 rfl sn))))))) (by kernel_rfl) (by kernel_rfl) (cc rfl (p_move g0 (oc _)) cn) fun a28 w28 b28 s28 => ?_
        have z28 := z27.below b28
        have hT := hT.below b28
        have hM := hM.below b28
        refine wp_block ?_
        refine wp_loopK (fun K a wr => ∃ y : Nat, K = 16 - y ∧ y ≤ 16 ∧ TabAt wr B gT gM t kv ∧ MapAt wr gm .u64 (mV mm) ∧ OnlyB (fun _ => False) w wr ∧ StE False 84 [(3, true, .val (ptrV gT)), (4, true, .val (.map (some gm))), (8, true, .int .u64 (x : Int)), (38, true, .int .u64 (x : Int)), (41, true, .int .u64 (y : Int))] noF a wr) 16 ⟨0, rfl, by omega, hT, hM, z28, s28.to _ ⟨rfl, rfl, rfl, rfl, rfl, True.intro⟩⟩ fun K a29 w29 hJ => ?_
        obtain ⟨y, rfl, hy16, hT, hM, z29, s29⟩ := hJ
        refine wp_seq ?_
        refine flowC mixed (s29.keep (sc 3 rfl (sc 4 rfl (sc 8 rfl (sc 38 rfl (sc 41 rfl sn)))))) (by kernel_rfl) (by kernel_rfl) (cc rfl (p_bin g0 (od rfl id) (oc _) b_lss_28) cn) fun a30 w30 b30 s30 => ?_
        have z30 := z29.below b30
        have hT := hT.below b30
        have hM := hM.below b30
        refine wp_seq ?_
        refine s30.cond 42 rfl (fun h42 => ?_) (fun h42 => ?_)
        · -- true
          have hy : y < 16 := by have := of_decide_eq_true h42; (try dsimp only at this); omega
          refine wp_skip ?_
          refine wp_seq ?_
          refine wp_block ?_
          refine wp_seq ?_
          refine flowC mixed (s30.keep (sc 3 rfl (sc 4 rfl (sc 8 rfl (sc 38 rfl (sc 41 rfl (sc 42 rfl sn))))))) (by kernel_rfl) (by kernel_rfl) (cc rfl (p_move g0 (od rfl id))
              (cc rfl (p_assign g0 (od rfl id)) cn)) fun a31 w31 b31 s31 => ?_
          have z31 := z30.below b31
          have hT := hT.below b31
          have hM := hM.below b31
          refine wp_seq ?_
          refine flowC mixed (s31.keep (sc 3 rfl (sc 4 rfl (sc 8 rfl (sc 9 rfl (sc 38 rfl (sc 41 rfl (sc 42 rfl (sc 43 rfl sn))))))))) (by kernel_rfl) (by kernel_rfl) (cc rfl (p_assign g0 (oc _)) cn) fun a32 w32 b32 s32 => ?_
          have z32 := z31.below b32
          have hT := hT.below b32
          have hM := hM.below b32
          refine wp_seq ?_
          refine wp_seq ?_
          refine flowC mixed (s32.keep (sc 3 rfl (sc 4 rfl (sc 8 rfl (sc 9 rfl (sc 10 rfl (sc 38 rfl (sc 41 rfl (sc 42 rfl (sc 43 rfl sn)))))))))) (by kernel_rfl) (by kernel_rfl) (cc rfl (p_move g0 (od rfl id))
              (cc rfl (p_assign g0 (od rfl id)) cn)) fun a33 w33 b33 s33 => ?_
          have z33 := z32.below b33
          have hT := hT.below b33
          have hM := hM.below b33
          refine wp_block ?_
          refine wp_loopK (fun K a wr => ∃ (q : Bool) (n : Int), Near mm K n ∧ (q || wantR mm (y : Int) K n) = wantR mm (y : Int) mm.length (x : Int) ∧ TabAt wr B gT gM t kv ∧ MapAt wr gm .u64 (mV mm) ∧ OnlyB (fun _ => False) w wr ∧ StE False 84 [(3, true, .val (ptrV gT)), (4, true, .val (.map (some gm))), (8, true, .int .u64 (x : Int)), (38, true, .int .u64 (x : Int)), (9, true, .int .u64 (y : Int)), (41, true, .int .u64 (y : Int)), (10, true, .bool q), (11, true, .int .u64 n)] noF a wr) mm.length ⟨false, (x : Int), near_all mm _, rfl, hT, hM, z33, s33.to _ ⟨rfl, rfl, rfl, rfl, rfl, rfl, rfl, rfl, True.intro⟩⟩ fun K a34 w34 hJ => ?_
          obtain ⟨q, n, hnear, hw, hT, hM, z34, s34⟩ := hJ
          refine wp_seq ?_
          refine wp_seq ?_
          have s34 := s34.more 4 (y := .both (.val (.map (some gm))) (.map .u64 (mV mm))) (at_mp hM (s34.get 4 rfl))
          refine flowC mixed (s34.keep (sc 3 rfl (sc 4 rfl (sc 8 rfl (sc 9 rfl (sc 10 rfl (sc 11 rfl (sc 38 rfl (sc 41 rfl sn))))))))) (by kernel_rfl) (by kernel_rfl) (cc rfl (p_move g0 (od rfl id))
              (cc rfl (p_bin g0 (od rfl id) (oc _) b_neq_28)
              (cc rfl (p_move g0 (od rfl id))
              (cc rfl (p_move (g1 rfl rfl) (od rfl (fun _ => rfl)))
              (cc rfl (p_move (g1 rfl rfl) (od rfl (fun _ => rfl)))
              (cc rfl (p_lookC (g1 rfl rfl) (od rfl id) (od rfl id))
              (cc rfl (p_run1 (od rfl id) fo_94_0 (fun s h => by simp [Op.operands, h]) (g1 rfl rfl))
              (cc rfl (p_bin (g1 rfl rfl) (od rfl id) (oc _) b_eql_3)
              (cc rfl (p_and g0 (od rfl id) (od rfl id)) cn))))))))) fun a35 w35 b35 s35 => ?_
          have z35 := z34.below b35
          have hT := hT.below b35
          have hM := hM.below b35
          have s35 := s35.more 4 (y := .val (.map (some gm))) (s35.get 4 rfl).1
          refine s35.cond 53 rfl (fun h53 => ?_) (fun h53 => ?_)
          · -- true
            have hnm2 : n ∈ nms mm := by have h := h53; rw [is_kind hI, Bool.and_eq_true] at h; exact List.contains_iff_mem.1 h.2
            obtain ⟨K2, hK2, hnear2, hwk⟩ := hI.climb hnm2 hnear
            have hwk := hwk (y : Int)
            refine wp_skip ?_
            refine wp_seq ?_
            refine wp_block ?_
            refine flowT (s35.keep (sc 3 rfl (sc 4 rfl (sc 8 rfl (sc 9 rfl (sc 10 rfl (sc 11 rfl (sc 38 rfl (sc 41 rfl (sc 45 rfl (sc 46 rfl (sc 47 rfl (sc 48 rfl (sc 49 rfl (sc 50 rfl (sc 51 rfl (sc 52 rfl (sc 53 rfl sn)))))))))))))))))) (by kernel_rfl) (cc rfl (p_move g0 (od rfl id))
                (cc rfl (p_move g0 (od rfl id))
                (cc rfl (p_move (g1 rfl rfl) (od rfl (fun _ => rfl)))
                (cc rfl (p_move (g1 rfl rfl) (od rfl (fun _ => rfl)))
                (cc rfl (p_bin (g1 rfl rfl) (od rfl id) (od rfl id) b_eql_28)
                (cc rfl (p_or g0 (od rfl id) (od rfl id))
                (cc rfl (p_assign g0 (od rfl id)) cn))))))) fun a36 w36 b36 s36 => ?_
            have z36 := z35.below b36
            have hT := hT.below b36
            have hM := hM.below b36
            have s36 := s36.more 4 (y := .both (.val (.map (some gm))) (.map .u64 (mV mm))) (at_mp hM (s36.get 4 rfl))
            refine flowT (s36.keep (sc 3 rfl (sc 4 rfl (sc 8 rfl (sc 9 rfl (sc 10 rfl (sc 11 rfl (sc 38 rfl (sc 41 rfl (sc 45 rfl (sc 46 rfl (sc 47 rfl (sc 48 rfl (sc 49 rfl (sc 50 rfl (sc 51 rfl (sc 52 rfl (sc 53 rfl (sc 58 rfl (sc 59 rfl (sc 60 rfl (sc 61 rfl (sc 62 rfl (sc 63 rfl sn)))))))))))))))))))))))) (by kernel_rfl) (cc rfl (p_move g0 (od rfl id))
                (cc rfl (p_move g0 (od rfl id))
                (cc rfl (p_lookC g0 (od rfl id) (od rfl id))
                (cc rfl (p_run1 (od rfl id) fo_94_2 (fun s h => by simp [Op.operands, h]) g0)
                (cc rfl (p_assign g0 (od rfl id)) cn))))) fun a37 w37 b37 s37 => ?_
            have z37 := z36.below b37
            have hT := hT.below b37
            have hM := hM.below b37
            have s37 := s37.more 4 (y := .val (.map (some gm))) (s37.get 4 rfl).1
            exact ⟨K2, by omega, (q || n == (y : Int)), _, hnear2, by rw [← hw, hwk, Bool.or_assoc], hT, hM, z37, s37.to _ ⟨rfl, rfl, rfl, rfl, rfl, rfl, rfl, rfl, True.intro⟩⟩
          · -- false
            have hnm2 : n ∉ nms mm := fun hn => by have h := h53; rw [is_kind hI, List.contains_iff_mem.2 hn, Bool.and_true] at h; have h2 : n = 0 := (by simpa using h); exact hI.zero (h2 ▸ hn)
            rw [want_none hnm2, Bool.or_false] at hw
            obtain ⟨KI, hKI⟩ := in_law hI (x : Int) (y : Int)
            rw [← hw] at hKI
            refine wp_exit ?_
            refine wp_seq ?_
            have s35 := s35.more 4 (y := .both (.val (.map (some gm))) (.map .u64 (mV mm))) (at_mp hM (s35.get 4 rfl))
            have s35 := s35.more 3 (y := .tbl B gT gM t kv) ⟨s35.get 3 rfl, hT, fun _ _ _ h => h⟩
            refine flowC mixed (s35.keep (sc 3 rfl (sc 4 rfl (sc 8 rfl (sc 9 rfl (sc 10 rfl (sc 11 rfl (sc 38 rfl (sc 41 rfl (sc 45 rfl (sc 46 rfl (sc 47 rfl (sc 48 rfl (sc 49 rfl (sc 50 rfl (sc 51 rfl (sc 52 rfl (sc 53 rfl sn)))))))))))))))))) (by kernel_rfl) (by kernel_rfl) (cc rfl (p_move g0 (od rfl id))
                (cc rfl (p_move g0 (od rfl id))
                (cc rfl (p_move g0 (od rfl id))
                (cc rfl (p_call 36 g0 (ox (od rfl id) (ox (od rfl id) (ox (od rfl id) ox0))) (fun _ _ => by kernel_rfl) (fIn hKI))
                (cc rfl (p_move g0 (od rfl id))
                (cc rfl (p_bin g0 (od rfl id) (od rfl id) b_neq_4)
                (cc rfl (p_move g0 (od rfl id))
                (cc rfl (p_move (g1 rfl rfl) (od rfl (fun _ => rfl)))
                (cc rfl (p_move (g1 rfl rfl) (od rfl (fun _ => rfl)))
                (cc rfl (p_call 17 (g1 rfl rfl) (ox (od rfl id) (ox (od rfl id) ox0)) (fun _ _ => by kernel_rfl) fGet)
                (cc rfl (p_bin (g1 rfl rfl) (od rfl id) (oc _) b_neP)
                (cc rfl (p_move (g1 rfl rfl) (od rfl (fun _ => rfl)))
                (cc rfl (p_move (g1 rfl rfl) (od rfl (fun _ => rfl)))
                (cc rfl (p_lookC (g1 rfl rfl) (od rfl id) (od rfl id))
                (cc rfl (p_run1 (od rfl id) fo_94_0 (fun s h => by simp [Op.operands, h]) (g1 rfl rfl))
                (cc rfl (p_bin (g1 rfl rfl) (od rfl id) (oc _) b_eql_3)
                (cc rfl (p_bin (g1 rfl rfl) (od rfl id) (od rfl id) b_neq_4)
                (cc rfl (p_or g0 (od rfl id) (od rfl id)) cn)))))))))))))))))) fun a38 w38 b38 s38 => ?_
            have z38 := z35.below b38
            have hT := hT.below b38
            have hM := hM.below b38
            have s38 := s38.more 4 (y := .val (.map (some gm))) (s38.get 4 rfl).1
            have s38 := s38.more 3 (y := .val (ptrV gT)) (s38.get 3 rfl).1
            refine s38.cond 81 rfl (fun h => absurd h (by rw [get_law hI, is_kind hI]; simp)) fun _ => ?_
            refine wp_skip ?_
            refine flowT (s38.keep (sc 3 rfl (sc 4 rfl (sc 8 rfl (sc 9 rfl (sc 10 rfl (sc 11 rfl (sc 38 rfl (sc 41 rfl (sc 45 rfl (sc 46 rfl (sc 47 rfl (sc 48 rfl (sc 49 rfl (sc 50 rfl (sc 51 rfl (sc 52 rfl (sc 53 rfl (sc 64 rfl (sc 65 rfl (sc 66 rfl (sc 67 rfl (sc 68 rfl (sc 69 rfl (sc 70 rfl (sc 71 rfl (sc 72 rfl (sc 73 rfl (sc 74 rfl (sc 75 rfl (sc 76 rfl (sc 77 rfl (sc 78 rfl (sc 79 rfl (sc 80 rfl (sc 81 rfl sn)))))))))))))))))))))))))))))))))))) (by kernel_rfl) (cc rfl (p_bin g0 (od rfl id) (oc _) (inc_28 (by omega)))
                (cc rfl (p_move g0 (od rfl id)) cn)) fun a39 w39 b39 s39 => ?_
            have z39 := z38.below b39
            have hT := hT.below b39
            have hM := hM.below b39
            exact ⟨16 - (y + 1), by omega, y + 1, rfl, by omega, hT, hM, z39, s39.to _ ⟨rfl, rfl, rfl, rfl, rfl, True.intro⟩⟩
        · -- false
          refine wp_exit ?_
          refine flowT (s30.keep (sc 3 rfl (sc 4 rfl (sc 8 rfl (sc 38 rfl (sc 41 rfl (sc 42 rfl sn))))))) (by kernel_rfl) (cc rfl (p_bin g0 (od rfl id) (oc _) (inc_28 (by omega)))
              (cc rfl (p_move g0 (od rfl id)) cn)) fun a40 w40 b40 s40 => ?_
          have z40 := z30.below b40
          have hT := hT.below b40
          have hM := hM.below b40
          exact ⟨16 - (x + 1), by omega, x + 1, rfl, by omega, hT, hM, z40, s40.to _ ⟨rfl, rfl, rfl, True.intro⟩⟩
      · -- false
        refine wp_exit ?_
        refine wp_seq ?_
        refine flowC mixed (s26.keep (sc 3 rfl (sc 4 rfl (sc 38 rfl sn)))) (by kernel_rfl) (by kernel_rfl) (cc rfl (p_assign g0 (oc _)) cn) fun a41 w41 b41 s41 => ?_
        have z41 := z26.below b41
        have hT := hT.below b41
        have hM := hM.below b41
        exact wp_ret (ret_o (fn := Try.f11) (R := fun v w' => v = .bool true ∧ Below w.heap.size w w') (v := .bool true) s41 2 rfl rfl ⟨rfl, z41.to_below (fun _ _ h => h) (Nat.le_refl _)⟩)

set_option maxRecDepth 100000 in
theorem tableRuns_lifted (os : Os) (started : os.Started) (H : Type) (enc : TypeId × Value → H) :
    ReturnsInHanded {} Try.checked os 11 .any (Rows.tableRunsSpec.pre6 enc Try.prog Try.f11 Rows.tableRunsRow.domain false) (Rows.tableRunsSpec.post enc Try.prog Try.f11 false true false false) := by
  refine lifted_of (C := Try.checked) laidOut own started (by kernel_rfl) Try.func11 rfl Try.underlying4 (by kernel_rfl) rfl
    (fun ds hds => by match ds, hds with | [_], _ => rfl)
    (ChangeSpec.witness6 (enc := enc) (C := Try.checked) false ⟨#[], #[.slice none 0 0], []⟩ 8 (by kernel_rfl) (by kernel_rfl) (by kernel_rfl) (by kernel_rfl)) ?_
  intro w base args ds ps hval0 hA0 hlt
  have hval : ∀ (j : Nat) t v, Try.f11.params[j]? = some t → args[j]? = some v → Value.okWide Try.prog w .any base t v := hval0
  have hA : DataW.TrodAll enc Try.prog w 0 (fun _ => true) true Try.f11.params.toList args.toList ds ps := hA0
  rw [Try.params11] at hA hval
  obtain ⟨v0, vs0, d0, ds0, p0, q0, hargs, rfl, rfl, h0, r0⟩ := trodAll_cons hA
  obtain ⟨rfl, rfl, rfl⟩ := trodAll_nil r0
  obtain rfl : args = #[v0] := by cases args; simp_all
  obtain ⟨x0, o0, s0⟩ := open_sl Try.underlying91 opens_calls (hval 0 91 v0 rfl rfl) h0 (fun x hx => hlt x (List.mem_append_left _ hx))
  exact (tableRuns_walk s0).mono fun e w' ⟨v, he, hv, hb⟩ => ⟨by rw [he, hv], hb⟩

set_option maxRecDepth 100000 in
theorem tableRuns_facts : joinedFacts Try.pinned.checked.prog 11 Try.f11 Rows.tableRunsSpec Rows.tableRunsRow = true := by
  show joinedFacts Try.prog 11 Try.f11 Rows.tableRunsSpec Rows.tableRunsRow = true
  unfold joinedFacts
  rw [mayEnter_ok, liftsFinal_ok, make_ok]
  kernel_rfl
theorem tableRuns_holds : Rows.TableRunsSaid :=
  OpenClaim.holds_of_wide 11 Try.f11 rfl rfl rfl rfl rfl rfl rfl ⟨rfl, rfl, rfl, rfl, rfl⟩ rfl rfl rfl rfl rfl (by kernel_rfl) Try.func11 tableRuns_facts
    (of_decide_eq_true (by kernel_rfl)) (by unfold Func.isWrapper; rw [if_neg (of_decide_eq_false (by kernel_rfl))]; exact ⟨rfl, rfl⟩)
    (fun os started H enc _ => tableRuns_lifted os started H enc)
#print axioms tableRuns_holds

end Go.Proofs.Ytbeeiecbbmiojaa.Y
