/- TableKids: what is removed and added again stands behind the others of its container. -/
import Derived.Test.YtbeeiecbbmiojaaYtq
import Derived.Test.YtbeeiecbbmiojaaHead
namespace Go.Proofs.Ytbeeiecbbmiojaa.Y
open Go.RowKit Go.ChangeShapes Go.WideShapes Go.ChangeAt Go.ChangeMaps Go.MapKept

set_option maxRecDepth 100000 in
/-- The walk of the law on what comes again. -/
theorem tableKids_walk {w : World} {v0 : Value} {l : List Int} (h0 : (.one (Lay.sl (Lay.int .i64)) l : Sym).on w noF v0) : Calls Try.prog 3 #[v0] w fun e w' => ∃ v, e = .returned v ∧ v = .bool true ∧ Below w.heap.size w w' := by
  obtain ⟨i0, hi0, hz0, hz1, hz2⟩ := info_parts Try.info28
  have z0 : OnlyB (fun _ => False) w w := OnlyB.refl _ _
  go_enter Try.func3, Try.ntmps3
  refine wp_seq ?_
  refine flowC mixed (st0 (U := False) (N := 102) (e := [(0, true, .val (v0))]) (F := noF) rfl rfl (fok_no _ _) ⟨⟨rfl, rfl⟩, True.intro⟩) (by kernel_rfl) (by kernel_rfl) (cc rfl (p_assign g0 (oc _)) cn) fun a1 w1 b1 s1 => ?_
  have z1 := z0.below b1
  refine wp_seq ?_
  refine wp_seq ?_
  refine wp_region_lit ?_
  refine with_st (s1.keep (sc 0 rfl sn)) fun s1 => ?_
  show wpList _ _ _ (_ :: _) _ _
  refine callO [] s1 (by simp [Region.wanted]) (fun _ _ => by kernel_rfl) rfl (by decide) cFit (vv 0 rfl vn) fun v2 a2 w2 hR2 s2 => ?_
  obtain ⟨rfl, b2⟩ := hR2
  have z2 := z1.below b2
  refine chainK 1 (cc rfl (p_not g0 (od rfl id)) cn) (by kernel_rfl) s2 fun a3 w3 b3 s3 => ?_
  have z3 := z2.below b3
  refine wpList_done ?_
  refine s3.cond 14 rfl (fun h => absurd h (by simp)) fun _ => ?_
  refine wp_skip ?_
  refine wp_seq ?_
  refine wp_seq ?_
  have s3 := s3.more 0 (y := .both (.val v0) (.one (Lay.sl (Lay.int .i64)) l)) ⟨s3.get 0 rfl, at_in h0 z3 (s3.get 0 rfl)⟩
  refine flowC mixed (s3.keep (sc 0 rfl sn)) (by kernel_rfl) (by kernel_rfl) (cc rfl (p_move g0 (od rfl id))
      (cc rfl (p_len ln_22 g0 (od2 rfl id))
      (cc rfl (p_bin g0 (od rfl id) (oc _) b_gtr_3) cn))) fun a4 w4 b4 s4 => ?_
  have z4 := z3.below b4
  have s4 := s4.more 0 (y := .val v0) (s4.get 0 rfl).1
  refine s4.cond 17 rfl (fun h17 => ?_) (fun h17 => ?_)
  · -- true
    refine wp_seq ?_
    refine flowC mixed (s4.keep (sc 0 rfl sn)) (by kernel_rfl) (by kernel_rfl) (cc rfl (p_assign g0 (oc _)) cn) fun a5 w5 b5 s5 => ?_
    have z5 := z4.below b5
    exact wp_ret (ret_o (fn := Try.f3) (R := fun v w' => v = .bool true ∧ Below w.heap.size w w') (v := .bool true) s5 2 rfl rfl ⟨rfl, z5.to_below (fun _ _ h => h) (Nat.le_refl _)⟩)
  · -- false
    have hl60 : l.length ≤ 60 := by have := of_decide_eq_false h17; (try dsimp only at this); omega
    refine wp_skip ?_
    refine wp_seq ?_
    refine wp_region_lit ?_
    refine with_st (s4.keep (sc 0 rfl sn)) fun s4 => ?_
    show wpList _ _ _ (_ :: _) _ _
    refine callO (R := fun v w' => ∃ gT gM, v = ptrV gT ∧ TabAt w' w4.heap.size gT gM T0 (fun _ => .slice none 0 0) ∧ Below w4.heap.size w4 w') [] s4 (by simp [Region.wanted]) (fun _ _ => by kernel_rfl) rfl (by decide) cNew (vv 0 rfl vn) fun v6 a6 w6 hR6 s6 => ?_
    obtain ⟨gT, gM, rfl, hT, b6⟩ := hR6
    have hbase := z4.size
    have z6 := z4.below b6
    refine chainK 1 (cc rfl (p_assign g0 (od rfl id)) cn) (by kernel_rfl) s6 fun a7 w7 b7 s7 => ?_
    have z7 := z6.below b7
    have hT := hT.below b7
    refine wpList_done ?_
    refine wp_seq ?_
    refine wp_region_lit ?_
    refine with_st (s7.keep (sc 0 rfl (sc 3 rfl sn))) fun s7 => ?_
    refine chainK 2 (cc rfl (p_move g0 (od rfl id))
        (cc rfl (p_done (y := .val _) bd_48a (fun _ _ => rfl) g0) cn)) (by kernel_rfl) s7 fun a8 w8 b8 s8 => ?_
    have z8 := z7.below b8
    have hT := hT.below b8
    show wpList _ _ _ (_ :: _) _ _
    refine alloc_on (u := 48) (z := toC rootO (.slice none 0 0)) s8 (by simp [Region.wanted]) rfl (by decide) (bx_48 _ _ _ (s8.get 20 rfl)) (vv 0 rfl (vv 3 rfl (vv 19 rfl vn))) fun gr a9 w9 hBgr hgr b9 s9 => ?_
    have hngr : (T0 : Tab).ob gr = none := no_at hT hgr
    have hgr := Nat.le_trans (Nat.le_of_lt (Nat.lt_of_le_of_lt hT.bT hT.tb.lt)) hgr
    have hT := hT.below b9
    have z9 := z8.below b9
    have hO := objAt0 (B := w4.heap.size) (o := rootO) rfl rfl hBgr rfl
    show wpList _ _ _ (_ :: _) _ _
    refine callO [.tmp 19, .tmp 21] s9 (by simp [Region.wanted]) (fun _ _ => by kernel_rfl) rfl (by decide) (show Calls Try.prog 15 #[a9.tmps.getD 19 undef, a9.tmps.getD 21 undef] w9 _ from by rw [show a9.tmps.getD 19 undef = ptrV gT from s9.get 19 rfl, show a9.tmps.getD 21 undef = ptrV gr from s9.get 21 rfl]; exact cAdd hT hO hgr hngr (fun _ _ h => by cases h) (fun _ _ h => by cases h)) (vv 0 rfl (vv 3 rfl vn)) fun v10 a10 w10 hR10 s10 => ?_
    obtain ⟨rfl, _, hyes⟩ := hR10
    obtain ⟨kv1, hT2, zA, _⟩ := hyes (fit_1 gr).1
    rw [(fit_1 gr).2] at hT2
    have z10 := z9.trans zA (fun x hx hS => absurd (Nat.le_trans hbase (hT.lt hS).1) (Nat.not_le.2 hx))
    have hT := hT2
    refine wpList_done ?_
    refine wp_seq ?_
    refine flowC mixed (s10.keep (sc 0 rfl (sc 3 rfl sn))) (by kernel_rfl) (by kernel_rfl) (cc rfl (p_assign g0 (oc _)) cn) fun a11 w11 b11 s11 => ?_
    have z11 := z10.below b11
    have hT := hT.below b11
    refine wp_seq ?_
    refine wp_seq ?_
    have s11 := s11.more 0 (y := .both (.val v0) (.one (Lay.sl (Lay.int .i64)) l)) ⟨s11.get 0 rfl, at_in h0 z11 (s11.get 0 rfl)⟩
    refine flowC mixed (s11.keep (sc 0 rfl (sc 3 rfl (sc 4 rfl sn)))) (by kernel_rfl) (by kernel_rfl) (cc rfl (p_move g0 (od rfl id))
        (cc rfl (p_len ln_22 g0 (od2 rfl id))
        (cc rfl (p_move g0 (oc _)) cn))) fun a12 w12 b12 s12 => ?_
    have z12 := z11.below b12
    have hT := hT.below b12
    have s12 := s12.more 23 (y := .val v0) (s12.get 23 rfl).1
    refine wp_block ?_
    refine wp_count l.length 25 (fun i a wr => ∃ t kv want u, TabAt wr w4.heap.size gT gM t kv ∧ KInv t gr want ∧ LenB t i ∧ want.length ≤ i ∧ wr.ownsRow w4.heap.size 28 1 u want.length (want.flatMap kE) ∧ (∀ j, TabB gT gM t kv j → u.ownBlock ≠ some j) ∧ OnlyB (fun _ => False) w wr ∧ StE False 102 [(3, true, .val (ptrV gT)), (4, true, .val u), (23, true, .val v0), (24, true, .int .i64 (l.length : Int)), (25, true, .int .i64 (i : Int))] noF a wr) (fun _ _ _ ⟨_, _, _, _, _, _, _, _, _, _, _, h⟩ => h.get 25 rfl) ⟨_, _, [], .slice none 0 0, hT, kinv_T1 gr, lenB_T1 gr, Nat.le_refl _, World.ownsRow_nil _ _ _ _, (fun _ _ h => by cases h), z12, s12.to _ ⟨rfl, rfl, rfl, rfl, rfl, True.intro⟩⟩ fun i a13 w13 hi13 hI => ?_
    obtain ⟨t, kv, want, u, hT, hK, hL, hwl, hu, hs1, z13, s13⟩ := hI
    have hwB : w4.heap.size ≤ w13.heap.size := Nat.le_of_lt (Nat.lt_of_le_of_lt hT.bT hT.tb.lt)
    refine wp_seq ?_
    refine flowC mixed (s13.keep (sc 3 rfl (sc 4 rfl (sc 23 rfl (sc 24 rfl (sc 25 rfl sn)))))) (by kernel_rfl) (by kernel_rfl) (cc rfl (p_bin g0 (od rfl id) (od rfl id) b_lss_3) cn) fun a14 w14 b14 s14 => ?_
    have z14 := z13.below b14
    have hT := hT.below b14
    have hu := own_below hu b14
    refine wp_seq ?_
    refine s14.cond 26 rfl (fun h26 => ?_) (fun h26 => ?_)
    · -- true
      have hlt : i < l.length := by simpa using h26
      obtain ⟨x, ex⟩ : ∃ x, l[i]? = some x := ⟨_, List.getElem?_eq_getElem hlt⟩
      obtain ⟨n, en⟩ : ∃ n, n = x % 8 + 2 := ⟨_, rfl⟩
      have hname := name_of x
      rw [← en] at hname
      have hn1 : n ≠ 1 := by omega
      have hn0 : n ≠ 0 := by omega
      refine wp_skip ?_
      refine wp_seq ?_
      refine wp_block ?_
      refine wp_seq ?_
      have s14 := s14.more 23 (y := .both (.val v0) (.one (Lay.sl (Lay.int .i64)) l)) ⟨s14.get 23 rfl, at_in h0 z14 (s14.get 23 rfl)⟩
      refine flowC mixed (s14.keep (sc 3 rfl (sc 4 rfl (sc 23 rfl (sc 24 rfl (sc 25 rfl (sc 26 rfl sn))))))) (by kernel_rfl) (by kernel_rfl) (cc rfl (p_index ix_22 ex g0 (od2 rfl id) (od rfl id))
          (cc rfl (p_loadI ld_3 g0 (od rfl id))
          (cc rfl (p_assign g0 (od rfl id)) cn))) fun a15 w15 b15 s15 => ?_
      have z15 := z14.below b15
      have hT := hT.below b15
      have hu := own_below hu b15
      have s15 := s15.more 23 (y := .val v0) (s15.get 23 rfl).1
      refine wp_seq ?_
      refine flowC mixed (s15.keep (sc 3 rfl (sc 4 rfl (sc 6 rfl (sc 23 rfl (sc 24 rfl (sc 25 rfl (sc 26 rfl (sc 27 rfl (sc 28 rfl sn)))))))))) (by kernel_rfl) (by kernel_rfl) (cc rfl (p_move g0 (od rfl id))
          (cc rfl (p_bin g0 (od rfl id) (oc _) b_and_3)
          (cc rfl (p_bin g0 (od rfl id) (oc _) b_add_3)
          (cc rfl (p_cvE hname g0 (od rfl id) cv_3_28)
          (cc rfl (p_assign g0 (od rfl id)) cn))))) fun a16 w16 b16 s16 => ?_
      have z16 := z15.below b16
      have hT := hT.below b16
      have hu := own_below hu b16
      refine wp_seq ?_
      refine flowC mixed (s16.keep (sc 3 rfl (sc 4 rfl (sc 6 rfl (sc 7 rfl (sc 23 rfl (sc 24 rfl (sc 25 rfl (sc 26 rfl (sc 27 rfl (sc 28 rfl (sc 29 rfl (sc 30 rfl (sc 31 rfl (sc 32 rfl sn))))))))))))))) (by kernel_rfl) (by kernel_rfl) (cc rfl (p_assign g0 (oc _)) cn) fun a17 w17 b17 s17 => ?_
      have z17 := z16.below b17
      have hT := hT.below b17
      have hu := own_below hu b17
      refine wp_seq ?_
      refine wp_seq ?_
      refine flowC mixed (s17.keep (sc 3 rfl (sc 4 rfl (sc 6 rfl (sc 7 rfl (sc 8 rfl (sc 23 rfl (sc 24 rfl (sc 25 rfl (sc 26 rfl (sc 27 rfl (sc 28 rfl (sc 29 rfl (sc 30 rfl (sc 31 rfl (sc 32 rfl sn)))))))))))))))) (by kernel_rfl) (by kernel_rfl) (cc rfl (p_move g0 (od rfl id))
          (cc rfl (p_lenW (own_slice hu) ln_29 g0 (od rfl id))
          (cc rfl (p_move g0 (oc _)) cn))) fun a18 w18 b18 s18 => ?_
      have z18 := z17.below b18
      have hT := hT.below b18
      have hu := own_below hu b18
      refine wp_block ?_
      refine wp_count want.length 35 (fun j a wr => ∃ x2, TabAt wr w4.heap.size gT gM t kv ∧ wr.ownsRow w4.heap.size 28 1 u want.length (want.flatMap kE) ∧ wr.ownsRow w4.heap.size 28 1 x2 ((want.take j).filter (· != n)).length (((want.take j).filter (· != n)).flatMap kE) ∧ (∀ j, TabB gT gM t kv j → x2.ownBlock ≠ some j) ∧ (u.ownBlock = none ∨ u.ownBlock ≠ x2.ownBlock) ∧ OnlyB (fun _ => False) w wr ∧ StE False 102 [(3, true, .val (ptrV gT)), (4, true, .val u), (23, true, .val v0), (24, true, .int .i64 (l.length : Int)), (25, true, .int .i64 (i : Int)), (7, true, .int .u64 n), (8, true, .val x2), (33, true, .val u), (34, true, .int .i64 (want.length : Int)), (35, true, .int .i64 (j : Int))] noF a wr) (fun _ _ _ ⟨_, _, _, _, _, _, _, h⟩ => h.get 35 rfl) ⟨.slice none 0 0, hT, hu, World.ownsRow_nil _ _ _ _, (fun _ _ h => by cases h), apart_nil, z18, s18.to _ ⟨rfl, rfl, rfl, rfl, rfl, rfl, rfl, rfl, rfl, rfl, True.intro⟩⟩ fun j a19 w19 hj19 hJ => ?_
      obtain ⟨x2, hT, hu, hx2, hs2, hs3, z19, s19⟩ := hJ
      have hwB : w4.heap.size ≤ w19.heap.size := Nat.le_of_lt (Nat.lt_of_le_of_lt hT.bT hT.tb.lt)
      refine wp_seq ?_
      refine flowC mixed (s19.keep (sc 3 rfl (sc 4 rfl (sc 7 rfl (sc 8 rfl (sc 23 rfl (sc 24 rfl (sc 25 rfl (sc 33 rfl (sc 34 rfl (sc 35 rfl sn))))))))))) (by kernel_rfl) (by kernel_rfl) (cc rfl (p_bin g0 (od rfl id) (od rfl id) b_lss_3) cn) fun a20 w20 b20 s20 => ?_
      have z20 := z19.below b20
      have hT := hT.below b20
      have hu := own_below hu b20
      have hx2 := own_below hx2 b20
      refine wp_seq ?_
      refine s20.cond 36 rfl (fun h36 => ?_) (fun h36 => ?_)
      · -- true
        have hjl : j < want.length := by simpa using h36
        obtain ⟨k, ek⟩ : ∃ x, want[j]? = some x := ⟨_, List.getElem?_eq_getElem hjl⟩
        refine wp_skip ?_
        refine wp_seq ?_
        refine wp_block ?_
        refine wp_seq ?_
        have s20 := s20.more 33 (y := .both (.val u) (.one (Lay.sl (Lay.int .u64)) want)) (at_row hu (s20.get 33 rfl))
        refine flowC mixed (s20.keep (sc 3 rfl (sc 4 rfl (sc 7 rfl (sc 8 rfl (sc 23 rfl (sc 24 rfl (sc 25 rfl (sc 33 rfl (sc 34 rfl (sc 35 rfl (sc 36 rfl sn)))))))))))) (by kernel_rfl) (by kernel_rfl) (cc rfl (p_index ix_29 ek g0 (od2 rfl id) (od rfl id))
            (cc rfl (p_loadI ld_28 g0 (od rfl id))
            (cc rfl (p_assign g0 (od rfl id)) cn))) fun a21 w21 b21 s21 => ?_
        have z21 := z20.below b21
        have hT := hT.below b21
        have hu := own_below hu b21
        have hx2 := own_below hx2 b21
        have s21 := s21.more 33 (y := .val u) (s21.get 33 rfl).1
        refine wp_seq ?_
        refine flowC mixed (s21.keep (sc 3 rfl (sc 4 rfl (sc 7 rfl (sc 8 rfl (sc 10 rfl (sc 23 rfl (sc 24 rfl (sc 25 rfl (sc 33 rfl (sc 34 rfl (sc 35 rfl (sc 36 rfl (sc 37 rfl (sc 38 rfl sn))))))))))))))) (by kernel_rfl) (by kernel_rfl) (cc rfl (p_move g0 (od rfl id))
            (cc rfl (p_move g0 (od rfl id))
            (cc rfl (p_bin g0 (od rfl id) (od rfl id) b_neq_28) cn))) fun a22 w22 b22 s22 => ?_
        have z22 := z21.below b22
        have hT := hT.below b22
        have hu := own_below hu b22
        have hx2 := own_below hx2 b22
        refine s22.cond 41 rfl (fun h41 => ?_) (fun h41 => ?_)
        · -- true
          have tf := take_filter (p := (· != n)) ek
          rw [if_pos h41] at tf
          refine wp_region_lit ?_
          refine with_st (s22.keep (sc 3 rfl (sc 4 rfl (sc 7 rfl (sc 8 rfl (sc 10 rfl (sc 23 rfl (sc 24 rfl (sc 25 rfl (sc 33 rfl (sc 34 rfl (sc 35 rfl sn)))))))))))) fun s22 => ?_
          refine chainK 2 (cc rfl (p_move g0 (od rfl id))
              (cc rfl (p_move g0 (od rfl id)) cn)) (by kernel_rfl) s22 fun a23 w23 b23 s23 => ?_
          have z23 := z22.below b23
          have hT := hT.below b23
          have hu := own_below hu b23
          have hx2 := own_below hx2 b23
          show wpList _ _ _ (_ :: _) _ _
          refine lit_on (u := 28) (z := #[.int .u64 k]) s23 (by simp [Region.wanted]) rfl (by decide) (bs_29 _ _ (s23.get 43 rfl)) (vv 3 rfl (vv 4 rfl (vv 23 rfl (vv 24 rfl (vv 25 rfl (vv 7 rfl (vv 33 rfl (vv 34 rfl (vv 35 rfl (vv 42 rfl vn)))))))))) fun gl a24 w24 hlt2 hgl b24 s24 => ?_
          have hT := hT.below b24
          have hu := own_below hu b24
          have hx2 := own_below hx2 b24
          have z24 := z23.below b24
          show wpList _ _ _ (_ :: _) _ _
          have hs2old := hs2
          have hwB : w4.heap.size ≤ w24.heap.size := Nat.le_of_lt (Nat.lt_of_le_of_lt hT.bT hT.tb.lt)
          have hbx : ∀ q, x2.ownBlock = some q → w4.heap.size ≤ q := fun q hq => own_base hx2 hq
          refine app_on (cs := kE k) s24 rfl rfl (by decide) rfl Try.underlying29 hi0 hz0 hz1 hz2 rfl (by decide) hx2 (s24.get 42 rfl) (s24.get 44 rfl) hlt2 rfl (fun u hu => by rw [List.mem_singleton.1 hu]; rfl) (by have := List.length_filter_le (· != n) (want.take j); rw [List.length_take] at this; unfold maxLen; omega) (by have := List.length_filter_le (· != n) (want.take j); rw [List.length_take] at this; omega) hwB (vv 3 rfl (vv 4 rfl (vv 23 rfl (vv 24 rfl (vv 25 rfl (vv 7 rfl (vv 33 rfl (vv 34 rfl (vv 35 rfl vn))))))))) fun x3 a25 w25 hx3 gA eA s25 => ?_
          have hs2 := apart_app hT eA hs2
          have hs3q := apart_row hu eA hs3
          have hu := own_grownR hu gA hs3
          have hs3 := hs3q
          have hT := hT.grown gA hs2old
          have z25 := z24.grown gA (fun x hx e => absurd (Nat.le_trans hbase (hbx x e)) (Nat.not_le.2 hx))
          have hx2 : w25.ownsRow w4.heap.size 28 1 x3 ((want.take (j + 1)).filter (· != n)).length (((want.take (j + 1)).filter (· != n)).flatMap kE) := by rw [tf, List.length_append, List.flatMap_append]; exact hx3
          refine chainK 1 (cc rfl (p_assign g0 (od rfl id)) cn) (by kernel_rfl) s25 fun a26 w26 b26 s26 => ?_
          have z26 := z25.below b26
          have hT := hT.below b26
          have hu := own_below hu b26
          have hx2 := own_below hx2 b26
          refine wpList_done ?_
          refine flowT (s26.keep (sc 3 rfl (sc 4 rfl (sc 7 rfl (sc 8 rfl (sc 23 rfl (sc 24 rfl (sc 25 rfl (sc 33 rfl (sc 34 rfl (sc 35 rfl (sc 45 rfl sn)))))))))))) (by kernel_rfl) (cc rfl (p_bin g0 (od rfl id) (oc _) (inc_3 (by omega)))
              (cc rfl (p_move g0 (od rfl id)) cn)) fun a27 w27 b27 s27 => ?_
          have z27 := z26.below b27
          have hT := hT.below b27
          have hu := own_below hu b27
          have hx2 := own_below hx2 b27
          exact ⟨hjl, _, hT, hu, hx2, hs2, hs3, z27, s27.to _ ⟨rfl, rfl, rfl, rfl, rfl, rfl, rfl, rfl, rfl, rfl, True.intro⟩⟩
        · -- false
          have tf := take_filter (p := (· != n)) ek
          rw [if_neg (by rw [h41]; simp), List.append_nil] at tf
          rw [← tf] at hx2
          refine wp_skip ?_
          refine flowT (s22.keep (sc 3 rfl (sc 4 rfl (sc 7 rfl (sc 8 rfl (sc 10 rfl (sc 23 rfl (sc 24 rfl (sc 25 rfl (sc 33 rfl (sc 34 rfl (sc 35 rfl (sc 36 rfl (sc 37 rfl (sc 38 rfl (sc 39 rfl (sc 40 rfl (sc 41 rfl sn)))))))))))))))))) (by kernel_rfl) (cc rfl (p_bin g0 (od rfl id) (oc _) (inc_3 (by omega)))
              (cc rfl (p_move g0 (od rfl id)) cn)) fun a28 w28 b28 s28 => ?_
          have z28 := z22.below b28
          have hT := hT.below b28
          have hu := own_below hu b28
          have hx2 := own_below hx2 b28
          exact ⟨hjl, _, hT, hu, hx2, hs2, hs3, z28, s28.to _ ⟨rfl, rfl, rfl, rfl, rfl, rfl, rfl, rfl, rfl, rfl, True.intro⟩⟩
      · -- false
        obtain rfl : j = want.length := by have := of_decide_eq_false h36; (try dsimp only at this); omega
        rw [List.take_of_length_le (Nat.le_refl _)] at hx2
        refine wp_exit ?_
        refine wp_seq ?_
        refine wp_seq ?_
        have hs1q := hs1
        refine wp_region_lit ?_
        refine with_st (s20.keep (sc 3 rfl (sc 4 rfl (sc 7 rfl (sc 8 rfl (sc 23 rfl (sc 24 rfl (sc 25 rfl sn)))))))) fun s20 => ?_
        refine chainK 2 (cc rfl (p_move g0 (od rfl id))
            (cc rfl (p_move g0 (od rfl id)) cn)) (by kernel_rfl) s20 fun a29 w29 b29 s29 => ?_
        have z29 := z20.below b29
        have hT := hT.below b29
        have hu := own_below hu b29
        have hx2 := own_below hx2 b29
        show wpList _ _ _ (_ :: _) _ _
        refine callO [.tmp 47, .tmp 48] s29 (by simp [Region.wanted]) (fun _ _ => by kernel_rfl) rfl (by decide) (show Calls Try.prog 16 #[a29.tmps.getD 47 undef, a29.tmps.getD 48 undef] w29 _ from by rw [show a29.tmps.getD 47 undef = ptrV gT from s29.get 47 rfl, show a29.tmps.getD 48 undef = .int .u64 n from s29.get 48 rfl]; exact cRemK hT hK hL (by omega) hn1) (vv 3 rfl (vv 4 rfl (vv 7 rfl (vv 8 rfl (vv 23 rfl (vv 24 rfl (vv 25 rfl vn))))))) fun v30 a30 w30 hR30 s30 => ?_
        obtain ⟨A, c, t2, kv2, rfl, hT2, hK2, hL2, zA, hB2⟩ := hR30
        have hs1 := apart_tab hu hs1 hB2
        have hs2q := hs2
        have hs2 := apart_tab hx2 hs2 hB2
        have hx2 := own_only hx2 zA (fun g hg hS => hs2q g hS hg)
        have hu := own_only hu zA (fun g hg hS => hs1q g hS hg)
        have z30 := z29.trans zA (fun x hx hS => absurd (Nat.le_trans hbase (hT.lt hS).1) (Nat.not_le.2 hx))
        have hT := hT2
        have hK := hK2
        have hL := hL2
        refine chainK 8 (cc rfl (p_lenV ln_49 g0 (od rfl id))
            (cc rfl (p_bin g0 (od rfl id) (oc _) b_eql_3)
            (cc rfl (p_move g0 (od rfl id))
            (cc rfl (p_lenW (own_slice hx2) ln_29 g0 (od rfl id))
            (cc rfl (p_move g0 (od rfl id))
            (cc rfl (p_lenW (own_slice hu) ln_29 g0 (od rfl id))
            (cc rfl (p_bin g0 (od rfl id) (od rfl id) b_lss_3)
            (cc rfl (p_bin g0 (od rfl id) (od rfl id) b_neq_4) cn)))))))) (by kernel_rfl) s30 fun a31 w31 b31 s31 => ?_
        have z31 := z30.below b31
        have hT := hT.below b31
        have hu := own_below hu b31
        have hx2 := own_below hx2 b31
        have s31 := s31.more 57 (y := .bool false) (bool_as (s31.get 57 rfl) kids_same)
        refine chainK 4 (cc rfl (p_move g0 (od rfl id))
            (cc rfl (p_move (g1 rfl rfl) (od rfl (fun _ => rfl)))
            (cc rfl (p_move (g1 rfl rfl) (od rfl (fun _ => rfl)))
            (cc rfl (p_runC (od rfl id) bd_48b (fun s h => by simp [Op.operands, h]) (g1 rfl rfl)) cn)))) (by kernel_rfl) s31 fun a32 w32 b32 s32 => ?_
        have z32 := z31.below b32
        have hT := hT.below b32
        have hu := own_below hu b32
        have hx2 := own_below hx2 b32
        show wpList _ _ _ (_ :: _) _ _
        refine alloc_on (u := 48) (z := toC ⟨n, 6, 1, [], none⟩ (.slice none 0 0)) s32 (Eq.trans (s32.wanted (g1 rfl rfl) rfl) rfl) rfl (by decide) (bx_48 _ _ _ (s32.get 61 rfl)) (vv 3 rfl (vv 4 rfl (vv 7 rfl (vv 8 rfl (vv 23 rfl (vv 24 rfl (vv 25 rfl (vv 58 rfl (vv 59 rfl vn))))))))) fun g2 a33 w33 hBg2 hg2 b33 s33 => ?_
        have hng2 : (t2 : Tab).ob g2 = none := no_at hT hg2
        have hg2 := Nat.le_trans (Nat.le_of_lt (Nat.lt_of_le_of_lt hT.bT hT.tb.lt)) hg2
        have hT := hT.below b33
        have hu := own_below hu b33
        have hx2 := own_below hx2 b33
        have z33 := z32.below b33
        have hO := objAt0 (B := w4.heap.size) (o := ⟨n, 6, 1, [], none⟩) rfl rfl hBg2 rfl
        show wpList _ _ _ (_ :: _) _ _
        have hA := hK.add hn0 hn1 filter_gone hng2
        refine callO [.tmp 59, .tmp 62] s33 (Eq.trans (s33.wanted (g1 rfl rfl) rfl) rfl) (fun _ _ => by kernel_rfl) rfl (by decide) (show Calls Try.prog 15 #[a33.tmps.getD 59 undef, a33.tmps.getD 62 undef] w33 _ from by rw [show a33.tmps.getD 59 undef = ptrV gT from s33.get 59 rfl, show a33.tmps.getD 62 undef = ptrV g2 from s33.get 62 rfl]; exact cAdd hT hO hg2 hng2 hK.ok (fun x q hq => Nat.le_trans (hL x q hq) (by omega))) (vv 3 rfl (vv 4 rfl (vv 7 rfl (vv 8 rfl (vv 23 rfl (vv 24 rfl (vv 25 rfl (vv 58 rfl vn)))))))) fun v34 a34 w34 hR34 s34 => ?_
        obtain ⟨rfl, _, hyes⟩ := hR34
        obtain ⟨kv3, hT2, zA, hB2⟩ := hyes hA.1
        have s34 := s34.more 63 (y := .bool true) (by rw [show _ = _ from s34.get 63 rfl, hA.1]; rfl)
        have hs1q := hs1
        have hs2q := hs2
        have hs1 := apart_add hu hO.blk hs1 rfl hB2
        have hs2 := apart_add hx2 hO.blk hs2 rfl hB2
        have hx2 := own_only hx2 zA (fun g hg hS => hs2q g hS hg)
        have hu := own_only hu zA (fun g hg hS => hs1q g hS hg)
        have z34 := z33.trans zA (fun x hx hS => absurd (Nat.le_trans hbase (hT.lt hS).1) (Nat.not_le.2 hx))
        obtain ⟨t3, et3⟩ : ∃ y, y = addT t2 g2 ⟨n, 6, 1, [], none⟩ := ⟨_, rfl⟩
        have hT := hT2
        have hK := hA.2
        have hL := hL.add (g := g2) (o := ⟨n, 6, 1, [], none⟩) (Nat.zero_le _)
        rw [← et3] at hT hK hL hs1 hs2
        refine chainK 2 (cc rfl (p_not (g1 rfl rfl) (od rfl (fun _ => rfl)))
            (cc rfl (p_or g0 (od rfl id) (od rfl id)) cn)) (by kernel_rfl) s34 fun a35 w35 b35 s35 => ?_
        have z35 := z34.below b35
        have hT := hT.below b35
        have hu := own_below hu b35
        have hx2 := own_below hx2 b35
        refine wpList_done ?_
        refine s35.cond 65 rfl (fun h => absurd h (by simp)) fun _ => ?_
        refine wp_skip ?_
        refine wp_seq ?_
        refine wp_region_lit ?_
        refine with_st (s35.keep (sc 3 rfl (sc 7 rfl (sc 8 rfl (sc 23 rfl (sc 24 rfl (sc 25 rfl sn))))))) fun s35 => ?_
        refine chainK 2 (cc rfl (p_move g0 (od rfl id))
            (cc rfl (p_move g0 (od rfl id)) cn)) (by kernel_rfl) s35 fun a36 w36 b36 s36 => ?_
        have z36 := z35.below b36
        have hT := hT.below b36
        have hu := own_below hu b36
        have hx2 := own_below hx2 b36
        show wpList _ _ _ (_ :: _) _ _
        refine lit_on (u := 28) (z := #[.int .u64 n]) s36 (by simp [Region.wanted]) rfl (by decide) (bs_29 _ _ (s36.get 67 rfl)) (vv 3 rfl (vv 23 rfl (vv 24 rfl (vv 25 rfl (vv 66 rfl vn))))) fun gl a37 w37 hlt2 hgl b37 s37 => ?_
        have hT := hT.below b37
        have hu := own_below hu b37
        have hx2 := own_below hx2 b37
        have z37 := z36.below b37
        show wpList _ _ _ (_ :: _) _ _
        have hs2old := hs2
        have hwB : w4.heap.size ≤ w37.heap.size := Nat.le_of_lt (Nat.lt_of_le_of_lt hT.bT hT.tb.lt)
        have hbx : ∀ q, x2.ownBlock = some q → w4.heap.size ≤ q := fun q hq => own_base hx2 hq
        refine app_on (cs := kE n) s37 rfl rfl (by decide) rfl Try.underlying29 hi0 hz0 hz1 hz2 rfl (by decide) hx2 (s37.get 66 rfl) (s37.get 68 rfl) hlt2 rfl (fun u hu => by rw [List.mem_singleton.1 hu]; rfl) (by have := List.length_filter_le (· != n) want; unfold maxLen; omega) (by have := List.length_filter_le (· != n) want; omega) hwB (vv 3 rfl (vv 23 rfl (vv 24 rfl (vv 25 rfl vn)))) fun u3 a38 w38 hx3 gA eA s38 => ?_
        have hs1 := apart_app hT eA hs2
        have hT := hT.grown gA hs2old
        have z38 := z37.grown gA (fun x hx e => absurd (Nat.le_trans hbase (hbx x e)) (Nat.not_le.2 hx))
        have hu : w38.ownsRow w4.heap.size 28 1 u3 (want.filter (· != n) ++ [n]).length ((want.filter (· != n) ++ [n]).flatMap kE) := by rw [List.length_append, List.flatMap_append]; exact hx3
        have hwl2 : (want.filter (· != n) ++ [n]).length ≤ i + 1 := by have := List.length_filter_le (· != n) want; rw [List.length_append, List.length_singleton]; omega
        refine chainK 1 (cc rfl (p_assign g0 (od rfl id)) cn) (by kernel_rfl) s38 fun a39 w39 b39 s39 => ?_
        have z39 := z38.below b39
        have hT := hT.below b39
        have hu := own_below hu b39
        refine wpList_done ?_
        refine wp_seq ?_
        refine wp_region_lit ?_
        refine with_st (s39.keep (sc 3 rfl (sc 4 rfl (sc 23 rfl (sc 24 rfl (sc 25 rfl sn)))))) fun s39 => ?_
        refine chainK 1 (cc rfl (p_move g0 (od rfl id)) cn) (by kernel_rfl) s39 fun a40 w40 b40 s40 => ?_
        have z40 := z39.below b40
        have hT := hT.below b40
        have hu := own_below hu b40
        show wpList _ _ _ (_ :: _) _ _
        refine callO [.tmp 70, .const (.int .u64 1)] s40 (by simp [Region.wanted]) (fun _ _ => by kernel_rfl) rfl (by decide) (show Calls Try.prog 17 #[a40.tmps.getD 70 undef, .int .u64 1] w40 _ from by rw [show a40.tmps.getD 70 undef = ptrV gT from s40.get 70 rfl]; exact cGet hT) (vv 3 rfl (vv 4 rfl (vv 23 rfl (vv 24 rfl (vv 25 rfl vn))))) fun v41 a41 w41 hR41 s41 => ?_
        obtain ⟨rfl, b41⟩ := hR41
        rw [hK.root] at s41
        have hT := hT.below b41
        have hu := own_below hu b41
        have z41 := z40.below b41
        have s41 := s41.more 71 (y := .bp gr 48 (toC ⟨1, 1, 0, want.filter (· != n) ++ [n], none⟩ (kv3 gr)) 0) (at_obj (hT.ob _ _ hK.ro).blk (s41.get 71 rfl))
        refine chainK 4 (cc rfl (p_nilB g0 (od rfl id))
            (cc rfl (p_faB fa_48_9 g0 (od rfl id))
            (cc rfl (p_ldB ld_29 rfl g0 (od rfl id))
            (cc rfl (p_assign g0 (od rfl id)) cn)))) (by kernel_rfl) s41 fun a42 w42 b42 s42 => ?_
        have z42 := z41.below b42
        have hT := hT.below b42
        have hu := own_below hu b42
        refine wpList_done ?_
        refine wp_seq ?_
        refine wp_seq ?_
        refine flowC mixed (s42.keep (sc 3 rfl (sc 4 rfl (sc 11 rfl (sc 23 rfl (sc 24 rfl (sc 25 rfl (sc 71 rfl (sc 72 rfl (sc 73 rfl (sc 74 rfl sn))))))))))) (by kernel_rfl) (by kernel_rfl) (cc rfl (p_move g0 (od rfl id))
            (cc rfl (p_lenW (own_slice (hT.ob _ _ hK.ro).row) ln_29 g0 (od rfl id))
            (cc rfl (p_move g0 (od rfl id))
            (cc rfl (p_lenW (own_slice hu) ln_29 g0 (od rfl id))
            (cc rfl (p_bin g0 (od rfl id) (od rfl id) b_neq_3) cn))))) fun a43 w43 b43 s43 => ?_
        have z43 := z42.below b43
        have hT := hT.below b43
        have hu := own_below hu b43
        refine s43.cond 79 rfl (fun h => absurd h (by simp)) fun _ => ?_
        refine wp_skip ?_
        refine wp_seq ?_
        refine flowC mixed (s43.keep (sc 3 rfl (sc 4 rfl (sc 11 rfl (sc 23 rfl (sc 24 rfl (sc 25 rfl (sc 71 rfl (sc 72 rfl (sc 73 rfl (sc 74 rfl (sc 75 rfl (sc 76 rfl (sc 77 rfl (sc 78 rfl (sc 79 rfl sn)))))))))))))))) (by kernel_rfl) (by kernel_rfl) (cc rfl (p_move g0 (od rfl id))
            (cc rfl (p_lenW (own_slice hu) ln_29 g0 (od rfl id))
            (cc rfl (p_move g0 (oc _)) cn))) fun a44 w44 b44 s44 => ?_
        have z44 := z43.below b44
        have hT := hT.below b44
        have hu := own_below hu b44
        refine wp_block ?_
        refine wp_count (want.filter (· != n) ++ [n]).length 82 (fun j a wr => TabAt wr w4.heap.size gT gM t3 kv3 ∧ wr.ownsRow w4.heap.size 28 1 u3 (want.filter (· != n) ++ [n]).length ((want.filter (· != n) ++ [n]).flatMap kE) ∧ OnlyB (fun _ => False) w wr ∧ StE False 102 [(3, true, .val (ptrV gT)), (4, true, .val u3), (23, true, .val v0), (24, true, .int .i64 (l.length : Int)), (25, true, .int .i64 (i : Int)), (11, true, .val (kv3 gr)), (81, true, .int .i64 ((want.filter (· != n) ++ [n]).length : Int)), (82, true, .int .i64 (j : Int))] noF a wr) (fun _ _ _ ⟨_, _, _, h⟩ => h.get 82 rfl) ⟨hT, hu, z44, s44.to _ ⟨rfl, rfl, rfl, rfl, rfl, rfl, rfl, rfl, True.intro⟩⟩ fun j a45 w45 hj45 hJ => ?_
        obtain ⟨hT, hu, z45, s45⟩ := hJ
        refine wp_seq ?_
        refine flowC mixed (s45.keep (sc 3 rfl (sc 4 rfl (sc 11 rfl (sc 23 rfl (sc 24 rfl (sc 25 rfl (sc 81 rfl (sc 82 rfl sn))))))))) (by kernel_rfl) (by kernel_rfl) (cc rfl (p_bin g0 (od rfl id) (od rfl id) b_lss_3) cn) fun a46 w46 b46 s46 => ?_
        have z46 := z45.below b46
        have hT := hT.below b46
        have hu := own_below hu b46
        refine wp_seq ?_
        refine s46.cond 83 rfl (fun h83 => ?_) (fun h83 => ?_)
        · -- true
          have hjl : j < (want.filter (· != n) ++ [n]).length := by have := of_decide_eq_true h83; (try dsimp only at this); omega
          obtain ⟨k, ek⟩ : ∃ x, (want.filter (· != n) ++ [n])[j]? = some x := ⟨_, List.getElem?_eq_getElem hjl⟩
          refine wp_skip ?_
          refine wp_seq ?_
          refine wp_block ?_
          refine wp_seq ?_
          refine flowC mixed (s46.keep (sc 3 rfl (sc 4 rfl (sc 11 rfl (sc 23 rfl (sc 24 rfl (sc 25 rfl (sc 81 rfl (sc 82 rfl (sc 83 rfl sn)))))))))) (by kernel_rfl) (by kernel_rfl) (cc rfl (p_move g0 (od rfl id))
              (cc rfl (p_assign g0 (od rfl id)) cn)) fun a47 w47 b47 s47 => ?_
          have z47 := z46.below b47
          have hT := hT.below b47
          have hu := own_below hu b47
          refine wp_seq ?_
          have s47 := s47.more 11 (y := .both (.val (kv3 gr)) (.one (Lay.sl (Lay.int .u64)) (want.filter (· != n) ++ [n]))) (at_row (hT.ob _ _ hK.ro).row (s47.get 11 rfl))
          have s47 := s47.more 4 (y := .both (.val u3) (.one (Lay.sl (Lay.int .u64)) (want.filter (· != n) ++ [n]))) (at_row hu (s47.get 4 rfl))
          refine flowC mixed (s47.keep (sc 3 rfl (sc 4 rfl (sc 11 rfl (sc 12 rfl (sc 23 rfl (sc 24 rfl (sc 25 rfl (sc 81 rfl (sc 82 rfl (sc 83 rfl (sc 84 rfl sn)))))))))))) (by kernel_rfl) (by kernel_rfl) (cc rfl (p_move g0 (od rfl id))
              (cc rfl (p_move g0 (od rfl id))
              (cc rfl (p_index ix_29 ek g0 (od2 rfl id) (od rfl id))
              (cc rfl (p_loadI ld_28 g0 (od rfl id))
              (cc rfl (p_move g0 (od rfl id))
              (cc rfl (p_move g0 (od rfl id))
              (cc rfl (p_index ix_29 ek g0 (od2 rfl id) (od rfl id))
              (cc rfl (p_loadI ld_28 g0 (od rfl id))
              (cc rfl (p_bin g0 (od rfl id) (od rfl id) b_neq_28) cn))))))))) fun a48 w48 b48 s48 => ?_
          have z48 := z47.below b48
          have hT := hT.below b48
          have hu := own_below hu b48
          have s48 := s48.more 11 (y := .val (kv3 gr)) (s48.get 11 rfl).1
          have s48 := s48.more 4 (y := .val u3) (s48.get 4 rfl).1
          refine s48.cond 93 rfl (fun h => absurd h (by simp)) fun _ => ?_
          refine wp_skip ?_
          refine flowT (s48.keep (sc 3 rfl (sc 4 rfl (sc 11 rfl (sc 12 rfl (sc 23 rfl (sc 24 rfl (sc 25 rfl (sc 81 rfl (sc 82 rfl (sc 83 rfl (sc 84 rfl (sc 85 rfl (sc 86 rfl (sc 87 rfl (sc 88 rfl (sc 89 rfl (sc 90 rfl (sc 91 rfl (sc 92 rfl (sc 93 rfl sn))))))))))))))))))))) (by kernel_rfl) (cc rfl (p_bin g0 (od rfl id) (oc _) (inc_3 (by omega)))
              (cc rfl (p_move g0 (od rfl id)) cn)) fun a49 w49 b49 s49 => ?_
          have z49 := z48.below b49
          have hT := hT.below b49
          have hu := own_below hu b49
          exact ⟨hjl, hT, hu, z49, s49.to _ ⟨rfl, rfl, rfl, rfl, rfl, rfl, rfl, rfl, True.intro⟩⟩
        · -- false
          obtain rfl : j = (want.filter (· != n) ++ [n]).length := by have := of_decide_eq_false h83; (try dsimp only at this); omega
          refine wp_exit ?_
          refine flowT (s46.keep (sc 3 rfl (sc 4 rfl (sc 11 rfl (sc 23 rfl (sc 24 rfl (sc 25 rfl (sc 81 rfl (sc 82 rfl (sc 83 rfl sn)))))))))) (by kernel_rfl) (cc rfl (p_bin g0 (od rfl id) (oc _) (inc_3 (by omega)))
              (cc rfl (p_move g0 (od rfl id)) cn)) fun a50 w50 b50 s50 => ?_
          have z50 := z46.below b50
          have hT := hT.below b50
          have hu := own_below hu b50
          exact ⟨hlt, t3, kv3, want.filter (· != n) ++ [n], u3, hT, hK, hL, hwl2, hu, hs1, z50, s50.to _ ⟨rfl, rfl, rfl, rfl, rfl, True.intro⟩⟩
    · -- false
      obtain rfl : i = l.length := by have := of_decide_eq_false h26; (try dsimp only at this); omega
      refine wp_exit ?_
      refine wp_seq ?_
      refine wp_region_lit ?_
      refine with_st (s14.keep (sc 3 rfl (sc 4 rfl sn))) fun s14 => ?_
      refine chainK 1 (cc rfl (p_move g0 (od rfl id)) cn) (by kernel_rfl) s14 fun a51 w51 b51 s51 => ?_
      have z51 := z14.below b51
      have hT := hT.below b51
      have hu := own_below hu b51
      show wpList _ _ _ (_ :: _) _ _
      refine callO [.tmp 96] s51 (by simp [Region.wanted]) (fun _ _ => by kernel_rfl) rfl (by decide) (show Calls Try.prog 18 #[a51.tmps.getD 96 undef] w51 _ from by rw [show a51.tmps.getD 96 undef = ptrV gT from s51.get 96 rfl]; exact cLen hT) (vv 4 rfl vn) fun v52 a52 w52 hR52 s52 => ?_
      obtain ⟨rfl, b52⟩ := hR52
      have hT := hT.below b52
      have hu := own_below hu b52
      have z52 := z51.below b52
      refine chainK 5 (cc rfl (p_move g0 (od rfl id))
          (cc rfl (p_lenW (own_slice hu) ln_29 g0 (od rfl id))
          (cc rfl (p_bin g0 (od rfl id) (oc _) b_add_3)
          (cc rfl (p_bin g0 (od rfl id) (od rfl id) b_eql_3)
          (cc rfl (p_assign g0 (od rfl id)) cn))))) (by kernel_rfl) s52 fun a53 w53 b53 s53 => ?_
      have z53 := z52.below b53
      have hT := hT.below b53
      have hu := own_below hu b53
      refine wpList_done ?_
      have s53 := s53.more 2 (y := .bool true) (bool_as (s53.get 2 rfl) (kids_len hK (by omega)))
      exact wp_ret (ret_o (fn := Try.f3) (R := fun v w' => v = .bool true ∧ Below w.heap.size w w') (v := .bool true) s53 2 rfl rfl ⟨rfl, z53.to_below (fun _ _ h => h) (Nat.le_refl _)⟩)

set_option maxRecDepth 100000 in
theorem tableKids_lifted (os : Os) (started : os.Started) (H : Type) (enc : TypeId × Value → H) :
    ReturnsInHanded {} Try.checked os 3 .any (Rows.tableKidsSpec.pre6 enc Try.prog Try.f3 Rows.tableKidsRow.domain false) (Rows.tableKidsSpec.post enc Try.prog Try.f3 false true false false) := by
  refine lifted_of (C := Try.checked) laidOut own started (by kernel_rfl) Try.func3 rfl Try.underlying4 (by kernel_rfl) rfl
    (fun ds hds => by match ds, hds with | [_], _ => rfl)
    (ChangeSpec.witness6 (enc := enc) (C := Try.checked) false ⟨#[], #[.slice none 0 0], []⟩ 8 (by kernel_rfl) (by kernel_rfl) (by kernel_rfl) (by kernel_rfl)) ?_
  intro w base args ds ps hval0 hA0 hlt
  have hval : ∀ (j : Nat) t v, Try.f3.params[j]? = some t → args[j]? = some v → Value.okWide Try.prog w .any base t v := hval0
  have hA : DataW.TrodAll enc Try.prog w 0 (fun _ => true) true Try.f3.params.toList args.toList ds ps := hA0
  rw [Try.params3] at hA hval
  obtain ⟨v0, vs0, d0, ds0, p0, q0, hargs, rfl, rfl, h0, r0⟩ := trodAll_cons hA
  obtain ⟨rfl, rfl, rfl⟩ := trodAll_nil r0
  obtain rfl : args = #[v0] := by cases args; simp_all
  obtain ⟨x0, o0, s0⟩ := open_sl Try.underlying22 opens_i22 (hval 0 22 v0 rfl rfl) h0 (fun x hx => hlt x (List.mem_append_left _ hx))
  exact (tableKids_walk s0).mono fun e w' ⟨v, he, hv, hb⟩ => ⟨by rw [he, hv], hb⟩

set_option maxRecDepth 100000 in
theorem tableKids_facts : joinedFacts Try.pinned.checked.prog 3 Try.f3 Rows.tableKidsSpec Rows.tableKidsRow = true := by
  show joinedFacts Try.prog 3 Try.f3 Rows.tableKidsSpec Rows.tableKidsRow = true
  unfold joinedFacts
  rw [mayEnter_ok, liftsFinal_ok, make_ok]
  kernel_rfl
theorem tableKids_holds : Rows.TableKidsSaid :=
  OpenClaim.holds_of_wide 3 Try.f3 rfl rfl rfl rfl rfl rfl rfl ⟨rfl, rfl, rfl, rfl, rfl⟩ rfl rfl rfl rfl rfl (by kernel_rfl) Try.func3 tableKids_facts
    (of_decide_eq_true (by kernel_rfl)) (by unfold Func.isWrapper; rw [if_neg (of_decide_eq_false (by kernel_rfl))]; exact ⟨rfl, rfl⟩)
    (fun os started H enc _ => tableKids_lifted os started H enc)
#print axioms tableKids_holds

end Go.Proofs.Ytbeeiecbbmiojaa.Y
