/- Yrw: play: what is taken away -/
import Derived.Test.YtbeeiecbbmiojaaYrv
namespace Go.Proofs.Ytbeeiecbbmiojaa.Y
open Go.RowKit Go.ChangeShapes Go.WideShapes Go.ChangeAt Go.ChangeMaps Go.MapKept

theorem seen_next {ns : List Int} {i : Nat} {x : Int} (ex : ns[i]? = some x) (y : Int) : (if y = x then true else (ns.take i).contains y) = (ns.take (i + 1)).contains y := by
  rw [List.take_add_one, ex]
  by_cases e : y = x <;> simp [e]
theorem seen_ok {a b c d : Bool} (h1 : a = true) (h2 : b = false) (h3 : c = true → d = true) : (((!a) || b) || (c && !d)) = false := by
  subst h1 h2
  cases c with
  | false => rfl
  | true => rw [h3 rfl]; rfl
theorem fil_next {mm : Noted} {i : Nat} {p : Int × CR} (ep : mm[i]? = some p) (f : Int × CR → Bool) : (mm.take (i + 1)).filter f = (mm.take i).filter f ++ (if f p then [p] else []) := by
  rw [List.take_add_one, ep, List.filter_append]
  simp [List.filter_cons]
theorem mm_split {mm : Noted} {i : Nat} {p : Int × CR} (ep : mm[i]? = some p) : mm.drop i = p :: mm.drop (i + 1) ∧ mm = mm.take i ++ p :: mm.drop (i + 1) := by
  obtain ⟨hil, rfl⟩ := List.getElem?_eq_some_iff.1 ep
  exact ⟨List.drop_eq_getElem_cons hil, by rw [← List.drop_eq_getElem_cons hil, List.take_append_drop]⟩
theorem mm_take_all (mm : Noted) : mm.take (nms mm).length = mm := by rw [List.length_map]; exact List.take_length
theorem mm_drop_all (mm : Noted) : mm.drop (nms mm).length = [] := by rw [List.length_map]; exact List.drop_length
theorem nms_app2 (mm : Noted) (p : Int × CR) : nms (mm ++ [p]) = nms mm ++ [p.1] := by unfold nms; rw [List.map_append]; rfl
theorem not_fil {l : Noted} {x : Int} (h : x ∉ l.map (·.1)) (f : Int × CR → Bool) : x ∉ (l.filter f).map (·.1) := fun hx => h (((List.filter_sublist).map _).subset hx)
set_option maxRecDepth 100000 in
set_option maxHeartbeats 3200000 in
/-- play: what is taken away. -/
theorem cPlayR {w : World} {B gT gM gm gO k : Nat} {t : Tab} {kv : Nat → Value} {mm : Noted} {v : Value} {xk xn xh xw xo : Int} (hP : PAt w B gT gM gm gO t kv mm v) (hI : RInv t mm) (hL : LenB t k) (hk : k ≤ 1000) (h42x : decide (bits .and .i64 xk 3 > 0) = false) : Calls Try.prog 34 #[ptrV gT, .map (some gm), ptrV gO, cV ⟨xk, xn, xh, xw, xo⟩] w fun e w' => ∃ v, e = .returned v ∧ v = .bool true ∧ ∃ (t' : Tab) (kv' : Nat → Value) (mm' : Noted) (v' : Value), PAt w' B gT gM gm gO t' kv' mm' v' ∧ RInv t' mm' ∧ LenB t' (k + 1) ∧ OnlyB (fun i => B ≤ i) w w' := by
  obtain ⟨i0, hi0, hz0, hz1, hz2⟩ := info_parts Try.info28
  obtain ⟨hT, hM, hC, hu, hbm, hbo, hnm, hap⟩ := hP
  have hwB : B ≤ w.heap.size := Nat.le_of_lt (Nat.lt_of_le_of_lt hT.bT hT.tb.lt)
  have h16 := hI.le16
  have z0 : OnlyB (fun i => B ≤ i) w w := OnlyB.refl _ _
  go_enter Try.func34, Try.ntmps34
  refine wp_seq ?_
  refine wp_region_lit ?_
  refine with_st (st0 (U := False) (N := 219) (e := [(0, true, .val (ptrV gT)), (1, true, .val (.map (some gm))), (2, true, .val (ptrV gO)), (3, true, .val (cV ⟨xk, xn, xh, xw, xo⟩))]) (F := noF) rfl rfl (fok_no _ _) ⟨⟨rfl, rfl⟩, ⟨⟨rfl, rfl⟩, ⟨⟨rfl, rfl⟩, ⟨⟨rfl, rfl⟩, True.intro⟩⟩⟩⟩) fun s0 => ?_
  show wpList _ _ _ (_ :: _) _ _
  refine alloc_on (u := 94) (z := (cA ⟨xk, xn, xh, xw, xo⟩)) s0 (by simp [Region.wanted]) rfl (by decide) (bx_94 _ _ _ (s0.get 3 rfl)) (vv 0 rfl (vv 1 rfl (vv 2 rfl vn))) fun g7 a1 w1 h7 ng7 b1 s1 => ?_
  have bg7 : B ≤ g7 := Nat.le_trans hwB (Nat.le_trans z0.size ng7)
  have hT := hT.below b1
  have hM := hM.below b1
  have hC := hC.below b1 hC.lt
  have hu := own_below hu b1
  have z1 := z0.below b1
  refine chainK 1 (cc rfl (p_assign g0 (oc _)) cn) (by kernel_rfl) s1 fun a2 w2 b2 s2 => ?_
  have z2 := z1.below b2
  have hT := hT.below b2
  have hM := hM.below b2
  have hC := hC.below b2 hC.lt
  have hu := own_below hu b2
  have h7 := h7.below b2 h7.lt
  refine wpList_done ?_
  refine wp_seq ?_
  have l7 := h7.lt
  refine wp_region_lit ?_
  refine with_st (s2.keep (sc 0 rfl (sc 1 rfl (sc 2 rfl (sc 7 rfl sn))))) fun s2 => ?_
  have s2 := s2.more 7 (y := .bp g7 94 ((cA ⟨xk, xn, xh, xw, xo⟩)) 0) (at_obj h7 (s2.get 7 rfl))
  refine chainK 12 (cc rfl (p_faB fa_94_1 g0 (od rfl id))
      (cc rfl (p_ldB ld_28 rfl g0 (od rfl id))
      (cc rfl (p_bin g0 (od rfl id) (oc _) b_and_28)
      (cc rfl (p_faB fa_94_2 g0 (od rfl id))
      (cc rfl (p_ldB ld_28 rfl g0 (od rfl id))
      (cc rfl (p_bin g0 (od rfl id) (oc _) b_and_28)
      (cc rfl (p_faB fa_94_3 g0 (od rfl id))
      (cc rfl (p_ldB ld_3 rfl g0 (od rfl id))
      (cc rfl (p_bin g0 (od rfl id) (oc _) (b_rem_3 (by decide)))
      (cc rfl (p_bin g0 (od rfl id) (oc _) b_add_3)
      (cc rfl (p_bin g0 (od rfl id) (oc _) (b_rem_3 (by decide)))
      (cc rfl (p_bin g0 (od rfl id) (oc _) b_add_3) cn)))))))))))) (by kernel_rfl) s2 fun a3 w3 b3 s3 => ?_
  have z3 := z2.below b3
  have hT := hT.below b3
  have hM := hM.below b3
  have hC := hC.below b3 hC.lt
  have hu := own_below hu b3
  have h7 := h7.below b3 h7.lt
  have s3 := s3.more 7 (y := .val (ptrV g7)) (s3.get 7 rfl).1
  obtain ⟨n, en, hn0⟩ : ∃ y : Int, a3.tmps.getD 26 undef = .int .u64 y ∧ 0 ≤ y ∧ y < 16 := ⟨bits .and .u64 xn 15, s3.get 26 rfl, by rw [u64_and15]; omega⟩
  obtain ⟨hm, em, hm0⟩ : ∃ y : Int, a3.tmps.getD 29 undef = .int .u64 y ∧ 0 ≤ y ∧ y < 16 := ⟨bits .and .u64 xh 15, s3.get 29 rfl, by rw [u64_and15]; omega⟩
  obtain ⟨wh, ew⟩ : ∃ y : Int, a3.tmps.getD 35 undef = .int .i64 y := ⟨_, s3.get 35 rfl⟩
  have s3 := s3.more 26 (y := .int .u64 n) en
  have s3 := s3.more 29 (y := .int .u64 hm) em
  have s3 := s3.more 35 (y := .int .i64 wh) ew
  refine chainK 1 (cc rfl (p_faV0 fa_94_1 g0 (od rfl id)) cn) (by kernel_rfl) s3 fun a4 w4 b4 s4 => ?_
  have z4 := z3.below b4
  have hT := hT.below b4
  have hM := hM.below b4
  have hC := hC.below b4 hC.lt
  have hu := own_below hu b4
  have h7 := h7.below b4 h7.lt
  show wpList _ _ _ (_ :: _) _ _
  refine cells_on (vs := [.int .u64 n]) s4 rfl rfl rfl (s4.get 36 rfl) (s4.get 26 rfl) rfl h7 (by simp) sz_28' (fun u hu => by rw [List.mem_singleton.1 hu]; rfl) (vv 0 rfl (vv 1 rfl (vv 2 rfl (vv 7 rfl (vv 29 rfl (vv 35 rfl vn)))))) fun a5 w5 hq5 gS s5 => ?_
  have hT := hT.grown gS (fun j hj e => tab_ty hT h7 (by decide) (by decide) (by decide) (by decide) (by injection e with e; rw [e]; exact hj))
  have hM := hM.grown gS (fun e => map_ne h7 hM (by injection e))
  have hC := hC.grown gS (fun e => blk_ne hC h7 (by decide) (by injection e))
  have hu := own_grownR hu gS (.inr (row_ne h7 hu (by decide)))
  have h7 : Blk w5 g7 94 (cA ⟨xk, n, xh, xw, xo⟩) := hq5
  have z5 := z4.grown gS (fun x _ e => by injection e with e; subst e; exact bg7)
  refine chainK 1 (cc rfl (p_faV0 fa_94_2 g0 (od rfl id)) cn) (by kernel_rfl) s5 fun a6 w6 b6 s6 => ?_
  have z6 := z5.below b6
  have hT := hT.below b6
  have hM := hM.below b6
  have hC := hC.below b6 hC.lt
  have hu := own_below hu b6
  have h7 := h7.below b6 h7.lt
  show wpList _ _ _ (_ :: _) _ _
  refine cells_on (vs := [.int .u64 hm]) s6 rfl rfl rfl (s6.get 37 rfl) (s6.get 29 rfl) rfl h7 (by simp) sz_28' (fun u hu => by rw [List.mem_singleton.1 hu]; rfl) (vv 0 rfl (vv 1 rfl (vv 2 rfl (vv 7 rfl (vv 35 rfl vn))))) fun a7 w7 hq7 gS s7 => ?_
  have hT := hT.grown gS (fun j hj e => tab_ty hT h7 (by decide) (by decide) (by decide) (by decide) (by injection e with e; rw [e]; exact hj))
  have hM := hM.grown gS (fun e => map_ne h7 hM (by injection e))
  have hC := hC.grown gS (fun e => blk_ne hC h7 (by decide) (by injection e))
  have hu := own_grownR hu gS (.inr (row_ne h7 hu (by decide)))
  have h7 : Blk w7 g7 94 (cA ⟨xk, n, hm, xw, xo⟩) := hq7
  have z7 := z6.grown gS (fun x _ e => by injection e with e; subst e; exact bg7)
  refine chainK 1 (cc rfl (p_faV0 fa_94_3 g0 (od rfl id)) cn) (by kernel_rfl) s7 fun a8 w8 b8 s8 => ?_
  have z8 := z7.below b8
  have hT := hT.below b8
  have hM := hM.below b8
  have hC := hC.below b8 hC.lt
  have hu := own_below hu b8
  have h7 := h7.below b8 h7.lt
  show wpList _ _ _ (_ :: _) _ _
  refine cells_on (vs := [.int .i64 wh]) s8 rfl rfl rfl (s8.get 38 rfl) (s8.get 35 rfl) rfl h7 (by simp) sz_3' (fun u hu => by rw [List.mem_singleton.1 hu]; rfl) (vv 0 rfl (vv 1 rfl (vv 2 rfl (vv 7 rfl vn)))) fun a9 w9 hq9 gS s9 => ?_
  have hT := hT.grown gS (fun j hj e => tab_ty hT h7 (by decide) (by decide) (by decide) (by decide) (by injection e with e; rw [e]; exact hj))
  have hM := hM.grown gS (fun e => map_ne h7 hM (by injection e))
  have hC := hC.grown gS (fun e => blk_ne hC h7 (by decide) (by injection e))
  have hu := own_grownR hu gS (.inr (row_ne h7 hu (by decide)))
  have h7 : Blk w9 g7 94 (cA ⟨xk, n, hm, wh, xo⟩) := hq9
  have z9 := z8.grown gS (fun x _ e => by injection e with e; subst e; exact bg7)
  refine wpList_done ?_
  refine wp_seq ?_
  refine wp_seq ?_
  have s9 := s9.more 7 (y := .bp g7 94 ((cA ⟨xk, n, hm, wh, xo⟩)) 0) (at_obj h7 (s9.get 7 rfl))
  refine flowC mixed (s9.keep (sc 0 rfl (sc 1 rfl (sc 2 rfl (sc 7 rfl sn))))) (by kernel_rfl) (by kernel_rfl) (cc rfl (p_faB fa_94_0 g0 (od rfl id))
      (cc rfl (p_ldB ld_3 rfl g0 (od rfl id))
      (cc rfl (p_bin g0 (od rfl id) (oc _) b_and_3)
      (cc rfl (p_bin g0 (od rfl id) (oc _) b_gtr_3) cn)))) fun a10 w10 b10 s10 => ?_
  have z10 := z9.below b10
  have hT := hT.below b10
  have hM := hM.below b10
  have hC := hC.below b10 hC.lt
  have hu := own_below hu b10
  have h7 := h7.below b10 h7.lt
  have s10 := s10.more 7 (y := .val (ptrV g7)) (s10.get 7 rfl).1
  refine s10.cond 42 rfl (fun h => absurd h (by rw [h42x]; simp)) fun _ => ?_
  refine wp_skip ?_
  refine wp_seq ?_
  refine wp_region_lit ?_
  refine with_st (s10.keep (sc 0 rfl (sc 1 rfl (sc 2 rfl (sc 7 rfl sn))))) fun s10 => ?_
  show wpList _ _ _ (_ :: _) _ _
  have lM := hT.mp.lt
  have lgm := hM.lt
  refine mk_on .u64 s10 rfl rfl (by decide) rfl (vv 0 rfl (vv 1 rfl (vv 2 rfl (vv 7 rfl vn)))) fun g13 a11 w11 h13 ng13 b11 s11 => ?_
  have bg13 : B ≤ g13 := Nat.le_trans hwB (Nat.le_trans z10.size ng13)
  have h13M : g13 ≠ gM := fun e => absurd lM (Nat.not_lt.2 (e ▸ ng13))
  have h13hM : g13 ≠ gm := fun e => absurd lgm (Nat.not_lt.2 (e ▸ ng13))
  have hT := hT.below b11
  have hM := hM.below b11
  have hC := hC.below b11 hC.lt
  have hu := own_below hu b11
  have h7 := h7.below b11 h7.lt
  have z11 := z10.below b11
  refine chainK 1 (cc rfl (p_assign g0 (od rfl id)) cn) (by kernel_rfl) s11 fun a12 w12 b12 s12 => ?_
  have z12 := z11.below b12
  have hT := hT.below b12
  have hM := hM.below b12
  have hC := hC.below b12 hC.lt
  have hu := own_below hu b12
  have h7 := h7.below b12 h7.lt
  have h13 := h13.below b12
  refine wpList_done ?_
  refine wp_seq ?_
  refine wp_seq ?_
  have s12 := s12.more 2 (y := .bp gO 29 #[v] 0) (at_obj hC (s12.get 2 rfl))
  refine flowC mixed (s12.keep (sc 0 rfl (sc 1 rfl (sc 2 rfl (sc 7 rfl (sc 13 rfl sn)))))) (by kernel_rfl) (by kernel_rfl) (cc rfl (p_move g0 (od rfl id))
      (cc rfl (p_nilB g0 (od rfl id))
      (cc rfl (p_ldB ld_29 rfl g0 (od rfl id))
      (cc rfl (p_lenW (own_slice hu) ln_29 g0 (od rfl id))
      (cc rfl (p_move g0 (oc _)) cn))))) fun a13 w13 b13 s13 => ?_
  have z13 := z12.below b13
  have hT := hT.below b13
  have hM := hM.below b13
  have hC := hC.below b13 hC.lt
  have hu := own_below hu b13
  have h7 := h7.below b13 h7.lt
  have h13 := h13.below b13
  have s13 := s13.more 2 (y := .val (ptrV gO)) (s13.get 2 rfl).1
  refine wp_block ?_
  have hl16 : (nms mm).length ≤ 16 := by rw [List.length_map]; exact h16
  refine wp_count (nms mm).length 127 (fun i a wr => ∃ gl, TabAt wr B gT gM t kv ∧ MapAt wr gm .u64 (mV mm) ∧ Blk wr gO 29 #[v] ∧ wr.ownsRow B 28 1 v (nms mm).length ((nms mm).flatMap kE) ∧ Blk wr g7 94 (cA ⟨xk, n, hm, wh, xo⟩) ∧ MapAt wr g13 .u64 gl ∧ GL gl (goneF n (mm.take i)) ∧ OnlyB (fun i => B ≤ i) w wr ∧ StE False 219 [(0, true, .val (ptrV gT)), (1, true, .val (.map (some gm))), (2, true, .val (ptrV gO)), (7, true, .val (ptrV g7)), (13, true, .val (.map (some g13))), (125, true, .val v), (126, true, .int .i64 ((nms mm).length : Int)), (127, true, .int .i64 (i : Int))] noF a wr) (fun _ _ _ ⟨_, _, _, _, _, _, _, _, _, h⟩ => h.get 127 rfl) ⟨[], hT, hM, hC, hu, h7, h13, gl_nil, z13, s13.to _ ⟨rfl, rfl, rfl, rfl, rfl, rfl, rfl, rfl, True.intro⟩⟩ fun i a14 w14 hi14 hJ => ?_
  obtain ⟨gl, hT, hM, hC, hu, h7, h13, hgl, z14, s14⟩ := hJ
  refine wp_seq ?_
  refine flowC mixed (s14.keep (sc 0 rfl (sc 1 rfl (sc 2 rfl (sc 7 rfl (sc 13 rfl (sc 125 rfl (sc 126 rfl (sc 127 rfl sn))))))))) (by kernel_rfl) (by kernel_rfl) (cc rfl (p_bin g0 (od rfl id) (od rfl id) b_lss_3) cn) fun a15 w15 b15 s15 => ?_
  have z15 := z14.below b15
  have hT := hT.below b15
  have hM := hM.below b15
  have hC := hC.below b15 hC.lt
  have hu := own_below hu b15
  have h7 := h7.below b15 h7.lt
  have h13 := h13.below b15
  refine wp_seq ?_
  refine s15.cond 128 rfl (fun h128 => ?_) (fun h128 => ?_)
  · -- true
    have hlt : i < (nms mm).length := by simpa using h128
    obtain ⟨p, ep⟩ : ∃ p, mm[i]? = some p := ⟨_, List.getElem?_eq_getElem (by simpa using hlt)⟩
    have ek : (nms mm)[i]? = some p.1 := by rw [List.getElem?_map, ep]; rfl
    have hpm := List.mem_of_getElem? ep
    have etk : mm.take (i + 1) = mm.take i ++ [p] := by rw [List.take_add_one, ep]; rfl
    have ecr := cr_mem hI.nd hpm
    refine wp_skip ?_
    refine wp_seq ?_
    refine wp_block ?_
    refine wp_seq ?_
    have s15 := s15.more 125 (y := .both (.val v) (.one (Lay.sl (Lay.int .u64)) (nms mm))) (at_row hu (s15.get 125 rfl))
    refine flowC mixed (s15.keep (sc 0 rfl (sc 1 rfl (sc 2 rfl (sc 7 rfl (sc 13 rfl (sc 125 rfl (sc 126 rfl (sc 127 rfl (sc 128 rfl sn)))))))))) (by kernel_rfl) (by kernel_rfl) (cc rfl (p_index ix_29 ek g0 (od2 rfl id) (od rfl id))
        (cc rfl (p_loadI ld_28 g0 (od rfl id))
        (cc rfl (p_assign g0 (od rfl id)) cn))) fun a16 w16 b16 s16 => ?_
    have z16 := z15.below b16
    have hT := hT.below b16
    have hM := hM.below b16
    have hC := hC.below b16 hC.lt
    have hu := own_below hu b16
    have h7 := h7.below b16 h7.lt
    have h13 := h13.below b16
    have s16 := s16.more 125 (y := .val (v)) (s16.get 125 rfl).1
    refine wp_region_lit ?_
    refine with_st (s16.keep (sc 0 rfl (sc 1 rfl (sc 2 rfl (sc 7 rfl (sc 13 rfl (sc 15 rfl (sc 125 rfl (sc 126 rfl (sc 127 rfl sn)))))))))) fun s16 => ?_
    have s16 := s16.more 1 (y := .both (.val (.map (some gm))) (.map .u64 (mV mm))) (at_mp hM (s16.get 1 rfl))
    have s16 := s16.more 13 (y := .both (.val (.map (some g13))) (.map .u64 gl)) (at_mp h13 (s16.get 13 rfl))
    have s16 := s16.more 7 (y := .bp g7 94 ((cA ⟨xk, n, hm, wh, xo⟩)) 0) (at_obj h7 (s16.get 7 rfl))
    refine chainK 14 (cc rfl (p_move g0 (od rfl id))
        (cc rfl (p_move g0 (od rfl id))
        (cc rfl (p_move g0 (od rfl id))
        (cc rfl (p_faB fa_94_1 g0 (od rfl id))
        (cc rfl (p_ldB ld_28 rfl g0 (od rfl id))
        (cc rfl (p_bin g0 (od rfl id) (od rfl id) b_eql_28)
        (cc rfl (p_move g0 (od rfl id))
        (cc rfl (p_move (g1 rfl rfl) (od rfl (fun _ => rfl)))
        (cc rfl (p_move (g1 rfl rfl) (od rfl (fun _ => rfl)))
        (cc rfl (p_move (g1 rfl rfl) (od rfl (fun _ => rfl)))
        (cc rfl (p_lookC (g1 rfl rfl) (od rfl id) (od rfl id))
        (cc rfl (p_run1 (od rfl id) fo_94_2 (fun s h => by simp [Op.operands, h]) (g1 rfl rfl))
        (cc rfl (p_lookB hgl (g1 rfl rfl) (od rfl id) (od rfl id))
        (cc rfl (p_or g0 (od rfl id) (od rfl id)) cn)))))))))))))) (by kernel_rfl) s16 fun a17 w17 b17 s17 => ?_
    have z17 := z16.below b17
    have hT := hT.below b17
    have hM := hM.below b17
    have hC := hC.below b17 hC.lt
    have hu := own_below hu b17
    have h7 := h7.below b17 h7.lt
    have h13 := h13.below b17
    have s17 := s17.more 1 (y := .val (.map (some gm))) (s17.get 1 rfl).1
    have s17 := s17.more 13 (y := .val (.map (some g13))) (s17.get 13 rfl).1
    have s17 := s17.more 7 (y := .val (ptrV g7)) (s17.get 7 rfl).1
    show wpList _ _ _ (_ :: _) _ _
    refine upd_on s17 h13 rfl rfl rfl ((s17.get 131 rfl).1) (s17.get 132 rfl) (s17.get 144 rfl) Try.underlying82 Try.underlying28 (vv 0 rfl (vv 1 rfl (vv 2 rfl (vv 7 rfl (vv 13 rfl (vv 125 rfl (vv 126 rfl (vv 127 rfl vn)))))))) fun w18 hq18 gS s18 => ?_
    have hT := hT.grown gS (fun j hj e => map_out hT h13 h13M (by injection e with e; rw [e]; exact hj))
    have hM := hM.grown gS (fun e => h13hM (by injection e))
    have hC := hC.grown gS (fun e => map_ne hC h13 (by injection e))
    have hu := own_grownR hu gS (.inr (row_map h13 hu))
    have h7 := h7.grown gS (fun e => map_ne h7 h13 (by injection e))
    have h13 := hq18
    have z18 := z17.grown gS (fun x _ e => by injection e with e; subst e; exact bg13)
    have hgl := gl_as (gl_put hgl p.1 (p.1 == n || goneF n (mm.take i) (crOf mm p.1).home)) (f2 := goneF n (mm.take (i + 1))) (fun x => by rw [etk, goneF_app, ecr]; rfl)
    refine wpList_done ?_
    refine flowT (s18.keep (sc 0 rfl (sc 1 rfl (sc 2 rfl (sc 7 rfl (sc 13 rfl (sc 125 rfl (sc 126 rfl (sc 127 rfl sn))))))))) (by kernel_rfl) (cc rfl (p_bin g0 (od rfl id) (oc _) (inc_3 (by omega)))
        (cc rfl (p_move g0 (od rfl id)) cn)) fun a19 w19 b19 s19 => ?_
    have z19 := z18.below b19
    have hT := hT.below b19
    have hM := hM.below b19
    have hC := hC.below b19 hC.lt
    have hu := own_below hu b19
    have h7 := h7.below b19 h7.lt
    have h13 := h13.below b19
    exact ⟨hlt, _, hT, hM, hC, hu, h7, h13, hgl, z19, s19.to _ ⟨rfl, rfl, rfl, rfl, rfl, rfl, rfl, rfl, True.intro⟩⟩
  · -- false
    obtain rfl : i = (nms mm).length := by have := of_decide_eq_false h128; (try dsimp only at this); omega
    rw [mm_take_all] at hgl
    refine wp_exit ?_
    refine wp_seq ?_
    refine wp_region_lit ?_
    refine with_st (s15.keep (sc 0 rfl (sc 1 rfl (sc 2 rfl (sc 7 rfl (sc 13 rfl sn)))))) fun s15 => ?_
    have s15 := s15.more 7 (y := .bp g7 94 ((cA ⟨xk, n, hm, wh, xo⟩)) 0) (at_obj h7 (s15.get 7 rfl))
    refine chainK 3 (cc rfl (p_move g0 (od rfl id))
        (cc rfl (p_faB fa_94_1 g0 (od rfl id))
        (cc rfl (p_ldB ld_28 rfl g0 (od rfl id)) cn))) (by kernel_rfl) s15 fun a20 w20 b20 s20 => ?_
    have z20 := z15.below b20
    have hT := hT.below b20
    have hM := hM.below b20
    have hC := hC.below b20 hC.lt
    have hu := own_below hu b20
    have h7 := h7.below b20 h7.lt
    have h13 := h13.below b20
    have s20 := s20.more 7 (y := .val (ptrV g7)) (s20.get 7 rfl).1
    show wpList _ _ _ (_ :: _) _ _
    refine callO [.tmp 146, .tmp 148] s20 (by simp [Region.wanted]) (fun _ _ => by kernel_rfl) rfl (by decide) (show Calls Try.prog 16 #[a20.tmps.getD 146 undef, a20.tmps.getD 148 undef] w20 _ from by rw [show a20.tmps.getD 146 undef = ptrV gT from s20.get 146 rfl, show a20.tmps.getD 148 undef = .int .u64 n from s20.get 148 rfl]; exact cRemR hT hI hL (by omega)) (vv 1 rfl (vv 2 rfl (vv 13 rfl vn))) fun v21 a21 w21 hR21 s21 => ?_
    obtain ⟨t2, kv2, ns, h9, hT2, hI2, hL2, zA, hB2, hnl, hn16, hns⟩ := hR21
    obtain ⟨A9, c9, rfl⟩ := own_slice h9
    obtain ⟨B9, h9⟩ : ∃ b, w21.ownsRow b 27 1 (.slice A9 (ns.map (lookG t)).length c9) (ns.map (lookG t)).length ((ns.map (lookG t)).flatMap pE) := ⟨_, h9⟩
    have hM := hM.only zA (map_out hT hM hnm)
    have h13 := h13.only zA (map_out hT h13 h13M)
    have hap2 := apart_tab hu hap hB2
    have hu := own_only hu zA (fun g hg hS => hap g hS hg)
    have hC := blk_only hC zA (tab_ty hT hC (by decide) (by decide) (by decide) (by decide))
    have z21 := z20.trans zA (fun x hx hS => (hT.lt hS).1)
    have hT := hT2
    refine chainK 1 (cc rfl (p_assign g0 (od rfl id)) cn) (by kernel_rfl) s21 fun a22 w22 b22 s22 => ?_
    have z22 := z21.below b22
    have hT := hT.below b22
    have hM := hM.below b22
    have h13 := h13.below b22
    have hC := hC.below b22 hC.lt
    have hu := own_below hu b22
    have h9 := own_below h9 b22
    refine wpList_done ?_
    refine wp_seq ?_
    refine flowC mixed (s22.keep (sc 1 rfl (sc 2 rfl (sc 13 rfl (sc 16 rfl sn))))) (by kernel_rfl) (by kernel_rfl) (cc rfl (p_assign g0 (oc _)) cn) fun a23 w23 b23 s23 => ?_
    have z23 := z22.below b23
    have hT := hT.below b23
    have hM := hM.below b23
    have h13 := h13.below b23
    have hC := hC.below b23 hC.lt
    have hu := own_below hu b23
    have h9 := own_below h9 b23
    refine wp_seq ?_
    refine flowC mixed (s23.keep (sc 1 rfl (sc 2 rfl (sc 13 rfl (sc 16 rfl (sc 17 rfl sn)))))) (by kernel_rfl) (by kernel_rfl) (cc rfl (p_assign g0 (oc _)) cn) fun a24 w24 b24 s24 => ?_
    have z24 := z23.below b24
    have hT := hT.below b24
    have hM := hM.below b24
    have h13 := h13.below b24
    have hC := hC.below b24 hC.lt
    have hu := own_below hu b24
    have h9 := own_below h9 b24
    refine wp_seq ?_
    refine wp_seq ?_
    have s24 := s24.more 2 (y := .bp gO 29 #[v] 0) (at_obj hC (s24.get 2 rfl))
    refine flowC mixed (s24.keep (sc 1 rfl (sc 2 rfl (sc 13 rfl (sc 16 rfl (sc 17 rfl (sc 18 rfl sn))))))) (by kernel_rfl) (by kernel_rfl) (cc rfl (p_move g0 (od rfl id))
        (cc rfl (p_nilB g0 (od rfl id))
        (cc rfl (p_ldB ld_29 rfl g0 (od rfl id))
        (cc rfl (p_lenW (own_slice hu) ln_29 g0 (od rfl id))
        (cc rfl (p_move g0 (oc _)) cn))))) fun a25 w25 b25 s25 => ?_
    have z25 := z24.below b25
    have hT := hT.below b25
    have hM := hM.below b25
    have h13 := h13.below b25
    have hC := hC.below b25 hC.lt
    have hu := own_below hu b25
    have h9 := own_below h9 b25
    have s25 := s25.more 2 (y := .val (ptrV gO)) (s25.get 2 rfl).1
    refine wp_block ?_
    refine wp_count (nms mm).length 154 (fun i a wr => ∃ x2, TabAt wr B gT gM t2 kv2 ∧ MapAt wr gm .u64 (mV (((mm.take i).filter (fun p : Int × CR => !goneF n mm p.1)) ++ mm.drop i)) ∧ Blk wr gO 29 #[v] ∧ wr.ownsRow B 28 1 v (nms mm).length ((nms mm).flatMap kE) ∧ MapAt wr g13 .u64 gl ∧ wr.ownsRow B9 27 1 (.slice A9 (ns.map (lookG t)).length c9) (ns.map (lookG t)).length ((ns.map (lookG t)).flatMap pE) ∧ wr.ownsRow B 28 1 x2 (nms ((mm.take i).filter (fun p : Int × CR => !goneF n mm p.1))).length ((nms ((mm.take i).filter (fun p : Int × CR => !goneF n mm p.1))).flatMap kE) ∧ (∀ j, TabB gT gM t2 kv2 j → x2.ownBlock ≠ some j) ∧ (v.ownBlock = none ∨ v.ownBlock ≠ x2.ownBlock) ∧ OnlyB (fun i => B ≤ i) w wr ∧ StE False 219 [(1, true, .val (.map (some gm))), (2, true, .val (ptrV gO)), (13, true, .val (.map (some g13))), (16, true, .val (.slice A9 (ns.map (lookG t)).length c9)), (17, true, .int .i64 (((mm.take i).filter (fun p : Int × CR => goneF n mm p.1)).length : Int)), (18, true, .val x2), (152, true, .val v), (153, true, .int .i64 ((nms mm).length : Int)), (154, true, .int .i64 (i : Int))] noF a wr) (fun _ _ _ ⟨_, _, _, _, _, _, _, _, _, _, _, h⟩ => h.get 154 rfl) ⟨.slice none 0 0, hT, hM, hC, hu, h13, h9, World.ownsRow_nil _ _ _ _, (fun _ _ h => by cases h), apart_nil, z25, s25.to _ ⟨rfl, rfl, rfl, rfl, rfl, rfl, rfl, rfl, rfl, True.intro⟩⟩ fun i a26 w26 hi26 hJ => ?_
    obtain ⟨x2, hT, hM, hC, hu, h13, h9, hx2, hs2, hs3, z26, s26⟩ := hJ
    refine wp_seq ?_
    refine flowC mixed (s26.keep (sc 1 rfl (sc 2 rfl (sc 13 rfl (sc 16 rfl (sc 17 rfl (sc 18 rfl (sc 152 rfl (sc 153 rfl (sc 154 rfl sn)))))))))) (by kernel_rfl) (by kernel_rfl) (cc rfl (p_bin g0 (od rfl id) (od rfl id) b_lss_3) cn) fun a27 w27 b27 s27 => ?_
    have z27 := z26.below b27
    have hT := hT.below b27
    have hM := hM.below b27
    have hC := hC.below b27 hC.lt
    have hu := own_below hu b27
    have h13 := h13.below b27
    have h9 := own_below h9 b27
    have hx2 := own_below hx2 b27
    refine wp_seq ?_
    refine s27.cond 155 rfl (fun h155 => ?_) (fun h155 => ?_)
    · -- true
      have hlt : i < (nms mm).length := by simpa using h155
      obtain ⟨p, ep⟩ : ∃ p, mm[i]? = some p := ⟨_, List.getElem?_eq_getElem (by simpa using hlt)⟩
      have ek : (nms mm)[i]? = some p.1 := by rw [List.getElem?_map, ep]; rfl
      have hpm := List.mem_of_getElem? ep
      obtain ⟨edr, esp⟩ := mm_split ep
      have hnd := hI.nd2 esp
      rw [edr] at hM
      have tfN := fil_next ep (fun p : Int × CR => !goneF n mm p.1)
      have tfG := fil_next ep (fun p : Int × CR => goneF n mm p.1)
      have hfl : ((mm.take i).filter (fun p : Int × CR => goneF n mm p.1)).length ≤ 16 := by have := List.length_filter_le (fun p : Int × CR => goneF n mm p.1) (mm.take i); rw [List.length_take] at this; rw [List.length_map] at hlt; omega
      have hfn : ((mm.take i).filter (fun p : Int × CR => !goneF n mm p.1)).length ≤ 16 := by have := List.length_filter_le (fun p : Int × CR => !goneF n mm p.1) (mm.take i); rw [List.length_take] at this; rw [List.length_map] at hlt; omega
      refine wp_skip ?_
      refine wp_seq ?_
      refine wp_block ?_
      refine wp_seq ?_
      have s27 := s27.more 152 (y := .both (.val v) (.one (Lay.sl (Lay.int .u64)) (nms mm))) (at_row hu (s27.get 152 rfl))
      refine flowC mixed (s27.keep (sc 1 rfl (sc 2 rfl (sc 13 rfl (sc 16 rfl (sc 17 rfl (sc 18 rfl (sc 152 rfl (sc 153 rfl (sc 154 rfl (sc 155 rfl sn))))))))))) (by kernel_rfl) (by kernel_rfl) (cc rfl (p_index ix_29 ek g0 (od2 rfl id) (od rfl id))
          (cc rfl (p_loadI ld_28 g0 (od rfl id))
          (cc rfl (p_assign g0 (od rfl id)) cn))) fun a28 w28 b28 s28 => ?_
      have z28 := z27.below b28
      have hT := hT.below b28
      have hM := hM.below b28
      have hC := hC.below b28 hC.lt
      have hu := own_below hu b28
      have h13 := h13.below b28
      have h9 := own_below h9 b28
      have hx2 := own_below hx2 b28
      have s28 := s28.more 152 (y := .val (v)) (s28.get 152 rfl).1
      refine wp_seq ?_
      have s28 := s28.more 13 (y := .both (.val (.map (some g13))) (.map .u64 gl)) (at_mp h13 (s28.get 13 rfl))
      refine flowC mixed (s28.keep (sc 1 rfl (sc 2 rfl (sc 13 rfl (sc 16 rfl (sc 17 rfl (sc 18 rfl (sc 20 rfl (sc 152 rfl (sc 153 rfl (sc 154 rfl (sc 155 rfl (sc 156 rfl (sc 157 rfl sn)))))))))))))) (by kernel_rfl) (by kernel_rfl) (cc rfl (p_move g0 (od rfl id))
          (cc rfl (p_move g0 (od rfl id))
          (cc rfl (p_lookB hgl g0 (od rfl id) (od rfl id)) cn))) fun a29 w29 b29 s29 => ?_
      have z29 := z28.below b29
      have hT := hT.below b29
      have hM := hM.below b29
      have hC := hC.below b29 hC.lt
      have hu := own_below hu b29
      have h13 := h13.below b29
      have h9 := own_below h9 b29
      have hx2 := own_below hx2 b29
      have s29 := s29.more 13 (y := .val (.map (some g13))) (s29.get 13 rfl).1
      refine s29.cond 160 rfl (fun h160 => ?_) (fun h160 => ?_)
      · -- true
        rw [if_neg (by rw [h160]; simp), List.append_nil] at tfN
        rw [if_pos h160] at tfG
        refine wp_seq ?_
        refine flowT (s29.keep (sc 1 rfl (sc 2 rfl (sc 13 rfl (sc 16 rfl (sc 17 rfl (sc 18 rfl (sc 20 rfl (sc 152 rfl (sc 153 rfl (sc 154 rfl (sc 155 rfl (sc 156 rfl (sc 157 rfl (sc 158 rfl (sc 159 rfl (sc 160 rfl sn))))))))))))))))) (by kernel_rfl) (cc rfl (p_move g0 (od rfl id))
            (cc rfl (p_bin g0 (od rfl id) (oc _) (inc_3 (by omega)))
            (cc rfl (p_assign g0 (od rfl id)) cn))) fun a30 w30 b30 s30 => ?_
        have z30 := z29.below b30
        have hT := hT.below b30
        have hM := hM.below b30
        have hC := hC.below b30 hC.lt
        have hu := own_below hu b30
        have h13 := h13.below b30
        have h9 := own_below h9 b30
        have hx2 := own_below hx2 b30
        have s30 := s30.more 17 (y := .int .i64 (((mm.take (i + 1)).filter (fun p : Int × CR => goneF n mm p.1)).length : Int)) ((s30.get 17 rfl).trans (by rw [tfG]; try rw [List.length_append, List.length_singleton]))
        refine wp_region_lit ?_
        refine with_st (s30.keep (sc 1 rfl (sc 2 rfl (sc 13 rfl (sc 16 rfl (sc 17 rfl (sc 18 rfl (sc 20 rfl (sc 152 rfl (sc 153 rfl (sc 154 rfl sn))))))))))) fun s30 => ?_
        refine chainK 2 (cc rfl (p_move g0 (od rfl id))
            (cc rfl (p_move g0 (od rfl id)) cn)) (by kernel_rfl) s30 fun a31 w31 b31 s31 => ?_
        have z31 := z30.below b31
        have hT := hT.below b31
        have hM := hM.below b31
        have hC := hC.below b31 hC.lt
        have hu := own_below hu b31
        have h13 := h13.below b31
        have h9 := own_below h9 b31
        have hx2 := own_below hx2 b31
        show wpList _ _ _ (_ :: _) _ _
        refine del_on s31 hM rfl rfl rfl (s31.get 163 rfl) (s31.get 164 rfl) Try.underlying92 Try.underlying28 (vv 1 rfl (vv 2 rfl (vv 13 rfl (vv 16 rfl (vv 17 rfl (vv 18 rfl (vv 152 rfl (vv 153 rfl (vv 154 rfl vn))))))))) fun w32 hq32 gS s32 => ?_
        have hT := hT.grown gS (fun j hj e => map_out hT hM hnm (by injection e with e; rw [e]; exact hj))
        have hC := hC.grown gS (fun e => map_ne hC hM (by injection e))
        have hu := own_grownR hu gS (.inr (row_map hM hu))
        have h13 := h13.grown gS (fun e => (Ne.symm h13hM) (by injection e))
        have h9 := own_grownR h9 gS (.inr (row_map hM h9))
        have hx2 := own_grownR hx2 gS (.inr (row_map hM hx2))
        rw [mV_del (not_fil hnd.1 _) hnd.2.1, ← tfN] at hq32
        have hM := hq32
        have z32 := z31.grown gS (fun x _ e => by injection e with e; subst e; exact hbm)
        rw [← tfN] at hx2
        refine wpList_done ?_
        refine flowT (s32.keep (sc 1 rfl (sc 2 rfl (sc 13 rfl (sc 16 rfl (sc 17 rfl (sc 18 rfl (sc 152 rfl (sc 153 rfl (sc 154 rfl sn)))))))))) (by kernel_rfl) (cc rfl (p_bin g0 (od rfl id) (oc _) (inc_3 (by omega)))
            (cc rfl (p_move g0 (od rfl id)) cn)) fun a33 w33 b33 s33 => ?_
        have z33 := z32.below b33
        have hT := hT.below b33
        have hM := hM.below b33
        have hC := hC.below b33 hC.lt
        have hu := own_below hu b33
        have h13 := h13.below b33
        have h9 := own_below h9 b33
        have hx2 := own_below hx2 b33
        exact ⟨hlt, _, hT, hM, hC, hu, h13, h9, hx2, hs2, hs3, z33, s33.to _ ⟨rfl, rfl, rfl, rfl, rfl, rfl, rfl, rfl, rfl, True.intro⟩⟩
      · -- false
        rw [if_pos (by rw [h160]; rfl)] at tfN
        rw [if_neg (by rw [h160]; simp), List.append_nil] at tfG
        refine wp_region_lit ?_
        refine with_st (s29.keep (sc 1 rfl (sc 2 rfl (sc 13 rfl (sc 16 rfl (sc 17 rfl (sc 18 rfl (sc 20 rfl (sc 152 rfl (sc 153 rfl (sc 154 rfl sn))))))))))) fun s29 => ?_
        refine chainK 2 (cc rfl (p_move g0 (od rfl id))
            (cc rfl (p_move g0 (od rfl id)) cn)) (by kernel_rfl) s29 fun a34 w34 b34 s34 => ?_
        have z34 := z29.below b34
        have hT := hT.below b34
        have hM := hM.below b34
        have hC := hC.below b34 hC.lt
        have hu := own_below hu b34
        have h13 := h13.below b34
        have h9 := own_below h9 b34
        have hx2 := own_below hx2 b34
        show wpList _ _ _ (_ :: _) _ _
        refine lit_on (u := 28) (z := #[.int .u64 p.1]) s34 (by simp [Region.wanted]) rfl (by decide) (bs_29' _ _ (s34.get 166 rfl)) (vv 1 rfl (vv 2 rfl (vv 13 rfl (vv 16 rfl (vv 17 rfl (vv 152 rfl (vv 153 rfl (vv 154 rfl (vv 165 rfl vn))))))))) fun gl2 a35 w35 hlt2 hgl2 b35 s35 => ?_
        have hT := hT.below b35
        have hM := hM.below b35
        have hC := hC.below b35 hC.lt
        have hu := own_below hu b35
        have h13 := h13.below b35
        have h9 := own_below h9 b35
        have hx2 := own_below hx2 b35
        have z35 := z34.below b35
        show wpList _ _ _ (_ :: _) _ _
        have hwB2 : B ≤ w35.heap.size := Nat.le_of_lt (Nat.lt_of_le_of_lt hT.bT hT.tb.lt)
        have hbx : ∀ q, x2.ownBlock = some q → B ≤ q := fun q hq => own_base hx2 hq
        refine app_on (cs := kE p.1) s35 rfl rfl (by decide) rfl Try.underlying29 hi0 hz0 hz1 hz2 rfl (by decide) hx2 (s35.get 165 rfl) (s35.get 167 rfl) hlt2 rfl (fun u hu => by rw [List.mem_singleton.1 hu]; rfl) (by rw [List.length_map]; unfold maxLen; omega) (by rw [List.length_map]; omega) hwB2 (vv 1 rfl (vv 2 rfl (vv 13 rfl (vv 16 rfl (vv 17 rfl (vv 152 rfl (vv 153 rfl (vv 154 rfl vn)))))))) fun x3 a36 w36 hx3 gA eA s36 => ?_
        have hs2q := apart_app hT eA hs2
        have hs3q := apart_row hu eA hs3
        have hT := hT.grown gA hs2
        have hM := hM.grown gA (row_map hM hx2)
        have h13 := h13.grown gA (row_map h13 hx2)
        have hC := hC.grown gA (Ne.symm (row_ne hC hx2 (by decide)))
        have hu := own_grownR hu gA hs3
        have h9 := own_grownR h9 gA (own_ne3 h9 hx2 (by decide))
        have hs2 := hs2q
        have hs3 := hs3q
        have z36 := z35.grown gA (fun x _ e => hbx x e)
        have hx2 : w36.ownsRow B 28 1 x3 (nms ((mm.take (i + 1)).filter (fun p : Int × CR => !goneF n mm p.1))).length ((nms ((mm.take (i + 1)).filter (fun p : Int × CR => !goneF n mm p.1))).flatMap kE) := by rw [tfN, nms_app2, List.length_append, List.flatMap_append]; exact hx3
        have hM : MapAt w36 gm .u64 (mV ((mm.take (i + 1)).filter (fun p : Int × CR => !goneF n mm p.1) ++ mm.drop (i + 1))) := by rw [tfN, List.append_assoc]; exact hM
        have s36 := s36.more 17 (y := .int .i64 (((mm.take (i + 1)).filter (fun p : Int × CR => goneF n mm p.1)).length : Int)) ((s36.get 17 rfl).trans (by rw [tfG]))
        refine chainK 1 (cc rfl (p_assign g0 (od rfl id)) cn) (by kernel_rfl) s36 fun a37 w37 b37 s37 => ?_
        have z37 := z36.below b37
        have hT := hT.below b37
        have hM := hM.below b37
        have hC := hC.below b37 hC.lt
        have hu := own_below hu b37
        have h13 := h13.below b37
        have h9 := own_below h9 b37
        have hx2 := own_below hx2 b37
        refine wpList_done ?_
        refine flowT (s37.keep (sc 1 rfl (sc 2 rfl (sc 13 rfl (sc 16 rfl (sc 17 rfl (sc 18 rfl (sc 152 rfl (sc 153 rfl (sc 154 rfl (sc 168 rfl sn))))))))))) (by kernel_rfl) (cc rfl (p_bin g0 (od rfl id) (oc _) (inc_3 (by omega)))
            (cc rfl (p_move g0 (od rfl id)) cn)) fun a38 w38 b38 s38 => ?_
        have z38 := z37.below b38
        have hT := hT.below b38
        have hM := hM.below b38
        have hC := hC.below b38 hC.lt
        have hu := own_below hu b38
        have h13 := h13.below b38
        have h9 := own_below h9 b38
        have hx2 := own_below hx2 b38
        exact ⟨hlt, _, hT, hM, hC, hu, h13, h9, hx2, hs2, hs3, z38, s38.to _ ⟨rfl, rfl, rfl, rfl, rfl, rfl, rfl, rfl, rfl, True.intro⟩⟩
    · -- false
      obtain rfl : i = (nms mm).length := by have := of_decide_eq_false h155; (try dsimp only at this); omega
      rw [mm_take_all, mm_drop_all, List.append_nil] at hM
      rw [mm_take_all] at hx2
      rw [mm_take_all] at s27
      refine wp_exit ?_
      refine wp_seq ?_
      refine wp_region_lit ?_
      refine with_st (s27.keep (sc 2 rfl (sc 13 rfl (sc 16 rfl (sc 17 rfl (sc 18 rfl sn)))))) fun s27 => ?_
      refine chainK 3 (cc rfl (p_move g0 (od rfl id))
          (cc rfl (p_move g0 (od rfl id))
          (cc rfl (p_nilV g0 (od rfl id)) cn))) (by kernel_rfl) s27 fun a39 w39 b39 s39 => ?_
      have z39 := z27.below b39
      have hT := hT.below b39
      have hM := hM.below b39
      have hC := hC.below b39 hC.lt
      have hu := own_below hu b39
      have h13 := h13.below b39
      have h9 := own_below h9 b39
      have hx2 := own_below hx2 b39
      show wpList _ _ _ (_ :: _) _ _
      refine cells_on (vs := [x2]) s39 rfl rfl rfl (s39.get 172 rfl) (s39.get 171 rfl) (slice_one hx2).2 hC (by simp) sz_29' (fun u hu => by rw [List.mem_singleton.1 hu]; exact (slice_one hx2).1) (vv 13 rfl (vv 16 rfl (vv 17 rfl vn))) fun a40 w40 hq40 gS s40 => ?_
      have hT := hT.grown gS (fun j hj e => tab_ty hT hC (by decide) (by decide) (by decide) (by decide) (by injection e with e; rw [e]; exact hj))
      have hM := hM.grown gS (fun e => map_ne hC hM (by injection e))
      have h13 := h13.grown gS (fun e => map_ne hC h13 (by injection e))
      have h9 := own_grownR h9 gS (.inr (row_ne hC h9 (by decide)))
      have hx2 := own_grownR hx2 gS (.inr (row_ne hC hx2 (by decide)))
      have hC : Blk w40 gO 29 #[x2] := hq40
      have z40 := z39.grown gS (fun x _ e => by injection e with e; subst e; exact hbo)
      refine wpList_done ?_
      refine wp_seq ?_
      refine wp_region_lit ?_
      refine with_st (s40.keep (sc 13 rfl (sc 16 rfl (sc 17 rfl sn)))) fun s40 => ?_
      show wpList _ _ _ (_ :: _) _ _
      have lM := hT.mp.lt
      have lgm := hM.lt
      have lg13 := h13.lt
      refine mk_on .u64 s40 rfl rfl (by decide) rfl (vv 13 rfl (vv 16 rfl (vv 17 rfl vn))) fun g21 a41 w41 h21 ng21 b41 s41 => ?_
      have bg21 : B ≤ g21 := Nat.le_trans hwB (Nat.le_trans z40.size ng21)
      have h21M : g21 ≠ gM := fun e => absurd lM (Nat.not_lt.2 (e ▸ ng21))
      have h21hM : g21 ≠ gm := fun e => absurd lgm (Nat.not_lt.2 (e ▸ ng21))
      have h21h13 : g21 ≠ g13 := fun e => absurd lg13 (Nat.not_lt.2 (e ▸ ng21))
      have hT := hT.below b41
      have hM := hM.below b41
      have hC := hC.below b41 hC.lt
      have h13 := h13.below b41
      have h9 := own_below h9 b41
      have hx2 := own_below hx2 b41
      have z41 := z40.below b41
      refine chainK 1 (cc rfl (p_assign g0 (od rfl id)) cn) (by kernel_rfl) s41 fun a42 w42 b42 s42 => ?_
      have z42 := z41.below b42
      have hT := hT.below b42
      have hM := hM.below b42
      have hC := hC.below b42 hC.lt
      have h13 := h13.below b42
      have h9 := own_below h9 b42
      have hx2 := own_below hx2 b42
      have h21 := h21.below b42
      refine wpList_done ?_
      refine wp_seq ?_
      refine wp_seq ?_
      refine flowC mixed (s42.keep (sc 13 rfl (sc 16 rfl (sc 17 rfl (sc 21 rfl sn))))) (by kernel_rfl) (by kernel_rfl) (cc rfl (p_move g0 (od rfl id))
          (cc rfl (p_lenV ln_49 g0 (od rfl id))
          (cc rfl (p_move g0 (oc _)) cn))) fun a43 w43 b43 s43 => ?_
      have z43 := z42.below b43
      have hT := hT.below b43
      have hM := hM.below b43
      have hC := hC.below b43 hC.lt
      have h13 := h13.below b43
      have h9 := own_below h9 b43
      have hx2 := own_below hx2 b43
      have h21 := h21.below b43
      refine wp_block ?_
      refine wp_count (ns.map (lookG t)).length 176 (fun i a wr => ∃ sl, TabAt wr B gT gM t2 kv2 ∧ MapAt wr gm .u64 (mV (mm.filter (fun p : Int × CR => !goneF n mm p.1))) ∧ Blk wr gO 29 #[x2] ∧ MapAt wr g13 .u64 gl ∧ wr.ownsRow B9 27 1 (.slice A9 (ns.map (lookG t)).length c9) (ns.map (lookG t)).length ((ns.map (lookG t)).flatMap pE) ∧ wr.ownsRow B 28 1 x2 (nms (mm.filter (fun p : Int × CR => !goneF n mm p.1))).length ((nms (mm.filter (fun p : Int × CR => !goneF n mm p.1))).flatMap kE) ∧ MapAt wr g21 .u64 sl ∧ GL sl (fun x => (ns.take i).contains x) ∧ OnlyB (fun i => B ≤ i) w wr ∧ StE False 219 [(13, true, .val (.map (some g13))), (16, true, .val (.slice A9 (ns.map (lookG t)).length c9)), (17, true, .int .i64 ((mm.filter (fun p : Int × CR => goneF n mm p.1)).length : Int)), (21, true, .val (.map (some g21))), (174, true, .val (.slice A9 (ns.map (lookG t)).length c9)), (175, true, .int .i64 ((ns.map (lookG t)).length : Int)), (176, true, .int .i64 (i : Int))] noF a wr) (fun _ _ _ ⟨_, _, _, _, _, _, _, _, _, _, h⟩ => h.get 176 rfl) ⟨[], hT, hM, hC, h13, h9, hx2, h21, gl_nil, z43, s43.to _ ⟨rfl, rfl, rfl, rfl, rfl, rfl, rfl, True.intro⟩⟩ fun i a44 w44 hi44 hJ => ?_
      obtain ⟨sl, hT, hM, hC, h13, h9, hx2, h21, hsl, z44, s44⟩ := hJ
      refine wp_seq ?_
      refine flowC mixed (s44.keep (sc 13 rfl (sc 16 rfl (sc 17 rfl (sc 21 rfl (sc 174 rfl (sc 175 rfl (sc 176 rfl sn)))))))) (by kernel_rfl) (by kernel_rfl) (cc rfl (p_bin g0 (od rfl id) (od rfl id) b_lss_3) cn) fun a45 w45 b45 s45 => ?_
      have z45 := z44.below b45
      have hT := hT.below b45
      have hM := hM.below b45
      have hC := hC.below b45 hC.lt
      have h13 := h13.below b45
      have h9 := own_below h9 b45
      have hx2 := own_below hx2 b45
      have h21 := h21.below b45
      refine wp_seq ?_
      refine s45.cond 177 rfl (fun h177 => ?_) (fun h177 => ?_)
      · -- true
        have hlt : i < (ns.map (lookG t)).length := by simpa using h177
        have hlt16 : i < 16 := by rw [List.length_map] at hlt; omega
        obtain ⟨x, ex⟩ : ∃ x, ns[i]? = some x := ⟨_, List.getElem?_eq_getElem (by simpa using hlt)⟩
        obtain ⟨q, hq, rfl, hqg, hqs, hqh⟩ := hns i x ex
        have hgm : (ns.map (lookG t))[i]? = some (lookG t q.name) := by rw [List.getElem?_map, ex]; rfl
        have hsn : (ns.take i).contains q.name = false := by simpa using hqs
        rcases h9.2 with ⟨_, h1⟩ | ⟨b, c2, cur, e, hBb, hbb, hnc, hcm, hcs, htake⟩
        · omega
        injection e with e1 e2 e3
        subst e1 e3
        have hbb : Blk _ b 27 cur := hbb
        have hob := hT.ob _ _ hq
        refine wp_skip ?_
        refine wp_seq ?_
        refine wp_block ?_
        refine wp_seq ?_
        have s45 := s45.more 174 (y := .rowO b (ns.map (lookG t)).length c9 i (lookG t q.name) cur (toC q (kv2 (lookG t q.name)))) ⟨s45.get 174 rfl, hlt, hbb, at_pE htake hgm, hob.blk, fun _ h => h, fun _ h => h⟩
        refine flowC mixed (s45.keep (sc 13 rfl (sc 16 rfl (sc 17 rfl (sc 21 rfl (sc 174 rfl (sc 175 rfl (sc 176 rfl (sc 177 rfl sn))))))))) (by kernel_rfl) (by kernel_rfl) (cc rfl (p_move g0 (od rfl id))
            (cc rfl (p_idxO g0 (od rfl id) (od rfl id))
            (cc rfl (p_ldO g0 (od rfl id))
            (cc rfl (p_assign g0 (od rfl id))
            (cc rfl (p_assign g0 (od rfl id)) cn))))) fun a46 w46 b46 s46 => ?_
        have z46 := z45.below b46
        have hT := hT.below b46
        have hM := hM.below b46
        have hC := hC.below b46 hC.lt
        have h13 := h13.below b46
        have h9 := own_below h9 b46
        have hx2 := own_below hx2 b46
        have h21 := h21.below b46
        have s46 := s46.more 174 (y := .val (.slice (some ⟨b, 0, none⟩) (ns.map (lookG t)).length c9)) (s46.get 174 rfl).1
        refine wp_seq ?_
        refine wp_seq ?_
        have s46 := s46.more 13 (y := .both (.val (.map (some g13))) (.map .u64 gl)) (at_mp h13 (s46.get 13 rfl))
        have s46 := s46.more 21 (y := .both (.val (.map (some g21))) (.map .u64 sl)) (at_mp h21 (s46.get 21 rfl))
        refine flowC mixed (s46.keep (sc 13 rfl (sc 16 rfl (sc 17 rfl (sc 21 rfl (sc 22 rfl (sc 23 rfl (sc 174 rfl (sc 175 rfl (sc 176 rfl (sc 177 rfl (sc 178 rfl (sc 179 rfl (sc 180 rfl sn)))))))))))))) (by kernel_rfl) (by kernel_rfl) (cc rfl (p_move g0 (od rfl id))
            (cc rfl (p_move g0 (od rfl id))
            (cc rfl (p_nilB g0 (od rfl id))
            (cc rfl (p_faB fa_48_1 g0 (od rfl id))
            (cc rfl (p_ldB ld_28 rfl g0 (od rfl id))
            (cc rfl (p_lookB hgl g0 (od rfl id) (od rfl id))
            (cc rfl (p_not g0 (od rfl id))
            (cc rfl (p_move g0 (od rfl id))
            (cc rfl (p_move (g1 rfl rfl) (od rfl (fun _ => rfl)))
            (cc rfl (p_move (g1 rfl rfl) (od rfl (fun _ => rfl)))
            (cc rfl (p_nilB (g1 rfl rfl) (od rfl id))
            (cc rfl (p_faB fa_48_1 (g1 rfl rfl) (od rfl id))
            (cc rfl (p_ldB ld_28 rfl (g1 rfl rfl) (od rfl id))
            (cc rfl (p_lookB hsl (g1 rfl rfl) (od rfl id) (od rfl id))
            (cc rfl (p_or g0 (od rfl id) (od rfl id))
            (cc rfl (p_move g0 (od rfl id))
            (cc rfl (p_move (g1 rfl rfl) (od rfl (fun _ => rfl)))
            (cc rfl (p_bin (g1 rfl rfl) (od rfl id) (oc _) b_gtr_3)
            (cc rfl (p_move (g1 rfl rfl) (od rfl id))
            (cc rfl (p_move (g1 rfl rfl) (od rfl (fun _ => rfl)))
            (cc rfl (p_move (g1 rfl rfl) (od rfl (fun _ => rfl)))
            (cc rfl (p_nilB (g1 rfl rfl) (od rfl id))
            (cc rfl (p_faB fa_48_4 (g1 rfl rfl) (od rfl id))
            (cc rfl (p_ldB ld_28 rfl (g1 rfl rfl) (od rfl id))
            (cc rfl (p_lookB hsl (g1 rfl rfl) (od rfl id) (od rfl id))
            (cc rfl (p_not (g1 rfl rfl) (od rfl id))
            (cc rfl (p_and (g1 rfl rfl) (od rfl id) (od rfl id))
            (cc rfl (p_or g0 (od rfl id) (od rfl id)) cn)))))))))))))))))))))))))))) fun a47 w47 b47 s47 => ?_
        have z47 := z46.below b47
        have hT := hT.below b47
        have hM := hM.below b47
        have hC := hC.below b47 hC.lt
        have h13 := h13.below b47
        have h9 := own_below h9 b47
        have hx2 := own_below hx2 b47
        have h21 := h21.below b47
        have s47 := s47.more 13 (y := .val (.map (some g13))) (s47.get 13 rfl).1
        have s47 := s47.more 21 (y := .val (.map (some g21))) (s47.get 21 rfl).1
        refine s47.cond 208 rfl (fun h => absurd h (by rw [Bool.not_eq_true]; exact seen_ok hqg hsn (fun h => List.contains_iff_mem.2 (hqh (by simpa using h))))) fun _ => ?_
        refine wp_skip ?_
        refine wp_region_lit ?_
        refine with_st (s47.keep (sc 13 rfl (sc 16 rfl (sc 17 rfl (sc 21 rfl (sc 23 rfl (sc 174 rfl (sc 175 rfl (sc 176 rfl sn))))))))) fun s47 => ?_
        refine chainK 5 (cc rfl (p_move g0 (od rfl id))
            (cc rfl (p_move g0 (od rfl id))
            (cc rfl (p_nilB g0 (od rfl id))
            (cc rfl (p_faB fa_48_1 g0 (od rfl id))
            (cc rfl (p_ldB ld_28 rfl g0 (od rfl id)) cn))))) (by kernel_rfl) s47 fun a48 w48 b48 s48 => ?_
        have z48 := z47.below b48
        have hT := hT.below b48
        have hM := hM.below b48
        have hC := hC.below b48 hC.lt
        have h13 := h13.below b48
        have h9 := own_below h9 b48
        have hx2 := own_below hx2 b48
        have h21 := h21.below b48
        show wpList _ _ _ (_ :: _) _ _
        refine upd_on s48 h21 rfl rfl rfl ((s48.get 209 rfl)) (s48.get 213 rfl) rfl Try.underlying82 Try.underlying28 (vv 13 rfl (vv 16 rfl (vv 17 rfl (vv 21 rfl (vv 174 rfl (vv 175 rfl (vv 176 rfl vn))))))) fun w49 hq49 gS s49 => ?_
        have hT := hT.grown gS (fun j hj e => map_out hT h21 h21M (by injection e with e; rw [e]; exact hj))
        have hM := hM.grown gS (fun e => h21hM (by injection e))
        have hC := hC.grown gS (fun e => map_ne hC h21 (by injection e))
        have h13 := h13.grown gS (fun e => h21h13 (by injection e))
        have h9 := own_grownR h9 gS (.inr (row_map h21 h9))
        have hx2 := own_grownR hx2 gS (.inr (row_map h21 hx2))
        have h21 := hq49
        have z49 := z48.grown gS (fun x _ e => by injection e with e; subst e; exact bg21)
        have hsl := gl_as (gl_put hsl q.name true) (f2 := fun y => (ns.take (i + 1)).contains y) (fun y => seen_next ex y)
        refine wpList_done ?_
        refine flowT (s49.keep (sc 13 rfl (sc 16 rfl (sc 17 rfl (sc 21 rfl (sc 174 rfl (sc 175 rfl (sc 176 rfl sn)))))))) (by kernel_rfl) (cc rfl (p_bin g0 (od rfl id) (oc _) (inc_3 (by omega)))
            (cc rfl (p_move g0 (od rfl id)) cn)) fun a50 w50 b50 s50 => ?_
        have z50 := z49.below b50
        have hT := hT.below b50
        have hM := hM.below b50
        have hC := hC.below b50 hC.lt
        have h13 := h13.below b50
        have h9 := own_below h9 b50
        have hx2 := own_below hx2 b50
        have h21 := h21.below b50
        exact ⟨hlt, _, hT, hM, hC, h13, h9, hx2, h21, hsl, z50, s50.to _ ⟨rfl, rfl, rfl, rfl, rfl, rfl, rfl, True.intro⟩⟩
      · -- false
        obtain rfl : i = (ns.map (lookG t)).length := by have := of_decide_eq_false h177; (try dsimp only at this); omega
        refine wp_exit ?_
        refine wp_seq ?_
        refine flowC mixed (s45.keep (sc 13 rfl (sc 16 rfl (sc 17 rfl (sc 21 rfl (sc 174 rfl (sc 175 rfl (sc 176 rfl sn)))))))) (by kernel_rfl) (by kernel_rfl) (cc rfl (p_move g0 (od rfl id))
            (cc rfl (p_lenV ln_49 g0 (od rfl id))
            (cc rfl (p_move g0 (od rfl id))
            (cc rfl (p_bin g0 (od rfl id) (od rfl id) b_eql_3)
            (cc rfl (p_assign g0 (od rfl id)) cn))))) fun a51 w51 b51 s51 => ?_
        have z51 := z45.below b51
        have hT := hT.below b51
        have hM := hM.below b51
        have hC := hC.below b51 hC.lt
        have h13 := h13.below b51
        have h9 := own_below h9 b51
        have hx2 := own_below hx2 b51
        have h21 := h21.below b51
        have s51 := s51.more 8 (y := .bool true) (bool_as (s51.get 8 rfl) (by rw [List.length_map, hnl]; simp))
        exact wp_ret (ret_o (fn := Try.f34) (R := fun v w' => v = .bool true ∧ ∃ (t' : Tab) (kv' : Nat → Value) (mm' : Noted) (v' : Value), PAt w' B gT gM gm gO t' kv' mm' v' ∧ RInv t' mm' ∧ LenB t' (k + 1) ∧ OnlyB (fun i => B ≤ i) w w') (v := .bool true) s51 8 rfl rfl ⟨rfl, t2, kv2, mm.filter (fun p : Int × CR => !goneF n mm p.1), x2, ⟨hT, hM, hC, hx2, hbm, hbo, hnm, hs2⟩, hI2, hL2.mono (Nat.le_succ k), z51⟩)

end Go.Proofs.Ytbeeiecbbmiojaa.Y
