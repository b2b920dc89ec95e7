/- Yrv: play: what is added -/
import Derived.Test.YtbeeiecbbmiojaaYru
import Derived.Test.YtbeeiecbbmiojaaYav
namespace Go.Proofs.Ytbeeiecbbmiojaa.Y
open Go.RowKit Go.ChangeShapes Go.WideShapes Go.ChangeAt Go.ChangeMaps Go.MapKept

/-- What Add makes of a table. -/
theorem cAddR {w : World} {B gT gM k g : Nat} {t : Tab} {kv : Nat → Value} {mm : Noted} {o : TO} (hT : TabAt w B gT gM t kv) (hI : RInv t mm) (hL : LenB t k) (hk : k ≤ 100000) (hO : ObjAt w B g o (.slice none 0 0)) (hg : B ≤ g) (hn : t.ob g = none) (h0 : 0 ≤ o.name ∧ o.name < 16) (hks : o.kids = []) : Calls Try.prog 15 #[ptrV gT, ptrV g] w fun e w' => ∃ v, e = .returned v ∧ v = .bool (mayR mm o.name o.home) ∧ ∃ (t3 : Tab) (kv3 : Nat → Value), TabAt w' B gT gM t3 kv3 ∧ LenB t3 (k + 1) ∧ OnlyB (TabB gT gM t kv) w w' ∧ (∀ i, TabB gT gM t3 kv3 i → TabB gT gM t kv i ∨ i = g ∨ (∃ on, o.th = some (i, on)) ∨ w.heap.size ≤ i) ∧ (mayR mm o.name o.home = false → RInv t3 mm) ∧ (mayR mm o.name o.home = true → ∀ c : CR, c.kind = 1 → c.name = o.name → c.home = o.home → c.what = o.kind → RInv t3 (mm ++ [(o.name, c)])) := by
  refine (cAdd hT hO hg hn hI.ok (lenB_lt hL hk)).mono ?_
  rintro _ w' ⟨v, rfl, rfl, hno, hyes⟩
  refine ⟨_, rfl, by rw [hI.may], ?_⟩
  rw [hI.may] at hno hyes
  cases hm : mayR mm o.name o.home with
  | false => exact ⟨t, kv, hT.below (hno hm), hL.mono (Nat.le_succ k), (OnlyB.refl _ w).below (hno hm), fun i hi => .inl hi, fun _ => hI, fun h => by cases h⟩
  | true =>
    obtain ⟨kv3, hT3, hz, hB⟩ := hyes hm
    exact ⟨_, kv3, hT3, hL.add (by rw [hks]; exact Nat.zero_le _), hz, hB, (fun h => by cases h), fun _ c c1 c2 c3 c4 => hI.add hn (by rw [hI.may]; exact hm) h0.1 h0.2 hks c1 c2 c3 c4⟩
theorem may_new {mm : Noted} {n hm : Int} (h : mayR mm n hm = true) : n ∉ nms mm := fun hn => by
  unfold mayR at h
  rw [show (mm.map (·.1)).contains n = true from List.contains_iff_mem.2 hn] at h
  simp at h
theorem cL_one {c : CR} : ∀ u ∈ cL c, u.oneCell' = true := fun u hu => by
  simp only [List.mem_cons, List.not_mem_nil, or_false] at hu
  rcases hu with rfl | rfl | rfl | rfl | rfl <;> rfl
theorem sz_94c (c : CR) : (Try.prog.info? 94).map (·.size) = some (cL c).length := sz_94
theorem tab_no' {w : World} {B gT gM g : Nat} {t : Tab} {kv : Nat → Value} {cs : Array Value} (h : TabAt w B gT gM t kv) (hA : Blk w g 48 cs) (hn : t.ob g = none) : ¬ TabB gT gM t kv g := fun hi => by
  rcases hi with rfl | rfl | ⟨x, o, h1, rfl | h2 | ⟨on, h2⟩⟩
  · exact blk_ne h.tb hA (by decide) rfl
  · exact map_ne hA h.mp rfl
  · rw [hn] at h1; cases h1
  · exact row_ne hA (h.ob _ _ h1).row (by decide) h2
  · exact blk_ne ((h.ob _ _ h1).th _ _ h2).1 hA (by decide) rfl
theorem apart_add4 {w : World} {B B2 n gT gM g : Nat} {t t2 : Tab} {kv kv2 : Nat → Value} {u v : Value} {xs : List Value} {o : TO} (hu : w.ownsRow B 28 1 u n xs) (hO : ObjAt w B2 g o v) (hs : ∀ j, TabB gT gM t kv j → u.ownBlock ≠ some j) (h2 : ∀ i, TabB gT gM t2 kv2 i → TabB gT gM t kv i ∨ i = g ∨ (∃ on, o.th = some (i, on)) ∨ w.heap.size ≤ i) : ∀ j, TabB gT gM t2 kv2 j → u.ownBlock ≠ some j := fun j hj e => by
  rcases h2 j hj with h | h | ⟨_, h⟩ | h
  · exact hs j h e
  · subst h; exact row_ne hO.blk hu (by decide) e
  · exact row_ne (hO.th _ _ h).1 hu (by decide) e
  · exact absurd (own_lt hu e) (Nat.not_lt.2 h)
/-- A block to be written: the row's, or one that nothing hangs on. -/
theorem away3 {w : World} {gM g h B n : Nat} {T T2 : TypeId} {l : List (Int × Value)} {v : Value} {xs : List Value} {cs ds : Array Value} (hm : MapAt w gM .u64 l) (hr : w.ownsRow B 28 1 v n xs) (h1 : Blk w h T cs) (h2 : Blk w g T2 ds) (e1 : T ≠ 28) (e2 : T2 ≠ 28) : ∃ g0, g0 < w.heap.size ∧ h ≠ g0 ∧ g ≠ g0 ∧ ∀ x, v.ownBlock = some x → x = g0 := by
  cases hv : v.ownBlock with
  | none => exact ⟨gM, hm.lt, map_ne h1 hm, map_ne h2 hm, fun _ h => by cases h⟩
  | some x => exact ⟨x, own_lt hr hv, fun e => row_ne h1 hr e1 (e ▸ hv), fun e => row_ne h2 hr e2 (e ▸ hv), fun y hy => by injection hy with hy; exact hy.symm⟩
theorem nms_app (mm : Noted) (n : Int) (c : CR) : nms (mm ++ [(n, c)]) = nms mm ++ [n] := by unfold nms; rw [List.map_append]; rfl
set_option maxRecDepth 100000 in
set_option maxHeartbeats 3200000 in
/-- play: what is added. -/
theorem cPlayA {w : World} {B gT gM gm gO k : Nat} {t : Tab} {kv : Nat → Value} {mm : Noted} {v : Value} {xk xn xh xw xo : Int} (hP : PAt w B gT gM gm gO t kv mm v) (hI : RInv t mm) (hL : LenB t k) (hk : k ≤ 1000) (h42x : decide (bits .and .i64 xk 3 > 0) = true) : Calls Try.prog 34 #[ptrV gT, .map (some gm), ptrV gO, cV ⟨xk, xn, xh, xw, xo⟩] w fun e w' => ∃ v, e = .returned v ∧ v = .bool true ∧ ∃ (t' : Tab) (kv' : Nat → Value) (mm' : Noted) (v' : Value), PAt w' B gT gM gm gO t' kv' mm' v' ∧ RInv t' mm' ∧ LenB t' (k + 1) ∧ OnlyB (fun i => B ≤ i) w w' := by
  obtain ⟨i0, hi0, hz0, hz1, hz2⟩ := info_parts Try.info28
  obtain ⟨hT, hM, hC, hu, hbm, hbo, hnm, hap⟩ := hP
  have hwB : B ≤ w.heap.size := Nat.le_of_lt (Nat.lt_of_le_of_lt hT.bT hT.tb.lt)
  have h16 := hI.le16
  have z0 : OnlyB (fun i => B ≤ i) w w := OnlyB.refl _ _
  go_enter Try.func34, Try.ntmps34
  refine wp_seq ?_
  refine wp_region_lit ?_
  refine with_st (st0 (U := False) (N := 219) (e := [(0, true, .val (ptrV gT)), (1, true, .val (.map (some gm))), (2, true, .val (ptrV gO)), (3, true, .val (cV ⟨xk, xn, xh, xw, xo⟩))]) (F := noF) rfl rfl (fok_no _ _) ⟨⟨rfl, rfl⟩, ⟨⟨rfl, rfl⟩, ⟨⟨rfl, rfl⟩, ⟨⟨rfl, rfl⟩, True.intro⟩⟩⟩⟩) fun s0 => ?_
  show wpList _ _ _ (_ :: _) _ _
  refine alloc_on (u := 94) (z := (cA ⟨xk, xn, xh, xw, xo⟩)) s0 (by simp [Region.wanted]) rfl (by decide) (bx_94 _ _ _ (s0.get 3 rfl)) (vv 0 rfl (vv 1 rfl (vv 2 rfl vn))) fun g7 a1 w1 h7 ng7 b1 s1 => ?_
  have bg7 : B ≤ g7 := Nat.le_trans hwB (Nat.le_trans z0.size ng7)
  have hT := hT.below b1
  have hM := hM.below b1
  have hC := hC.below b1 hC.lt
  have hu := own_below hu b1
  have z1 := z0.below b1
  refine chainK 1 (cc rfl (p_assign g0 (oc _)) cn) (by kernel_rfl) s1 fun a2 w2 b2 s2 => ?_
  have z2 := z1.below b2
  have hT := hT.below b2
  have hM := hM.below b2
  have hC := hC.below b2 hC.lt
  have hu := own_below hu b2
  have h7 := h7.below b2 h7.lt
  refine wpList_done ?_
  refine wp_seq ?_
  have l7 := h7.lt
  refine wp_region_lit ?_
  refine with_st (s2.keep (sc 0 rfl (sc 1 rfl (sc 2 rfl (sc 7 rfl sn))))) fun s2 => ?_
  have s2 := s2.more 7 (y := .bp g7 94 ((cA ⟨xk, xn, xh, xw, xo⟩)) 0) (at_obj h7 (s2.get 7 rfl))
  refine chainK 12 (cc rfl (p_faB fa_94_1 g0 (od rfl id))
      (cc rfl (p_ldB ld_28 rfl g0 (od rfl id))
      (cc rfl (p_bin g0 (od rfl id) (oc _) b_and_28)
      (cc rfl (p_faB fa_94_2 g0 (od rfl id))
      (cc rfl (p_ldB ld_28 rfl g0 (od rfl id))
      (cc rfl (p_bin g0 (od rfl id) (oc _) b_and_28)
      (cc rfl (p_faB fa_94_3 g0 (od rfl id))
      (cc rfl (p_ldB ld_3 rfl g0 (od rfl id))
      (cc rfl (p_bin g0 (od rfl id) (oc _) (b_rem_3 (by decide)))
      (cc rfl (p_bin g0 (od rfl id) (oc _) b_add_3)
      (cc rfl (p_bin g0 (od rfl id) (oc _) (b_rem_3 (by decide)))
      (cc rfl (p_bin g0 (od rfl id) (oc _) b_add_3) cn)))))))))))) (by kernel_rfl) s2 fun a3 w3 b3 s3 => ?_
  have z3 := z2.below b3
  have hT := hT.below b3
  have hM := hM.below b3
  have hC := hC.below b3 hC.lt
  have hu := own_below hu b3
  have h7 := h7.below b3 h7.lt
  have s3 := s3.more 7 (y := .val (ptrV g7)) (s3.get 7 rfl).1
  obtain ⟨n, en, hn0⟩ : ∃ y : Int, a3.tmps.getD 26 undef = .int .u64 y ∧ 0 ≤ y ∧ y < 16 := ⟨bits .and .u64 xn 15, s3.get 26 rfl, by rw [u64_and15]; omega⟩
  obtain ⟨hm, em, hm0⟩ : ∃ y : Int, a3.tmps.getD 29 undef = .int .u64 y ∧ 0 ≤ y ∧ y < 16 := ⟨bits .and .u64 xh 15, s3.get 29 rfl, by rw [u64_and15]; omega⟩
  obtain ⟨wh, ew⟩ : ∃ y : Int, a3.tmps.getD 35 undef = .int .i64 y := ⟨_, s3.get 35 rfl⟩
  have s3 := s3.more 26 (y := .int .u64 n) en
  have s3 := s3.more 29 (y := .int .u64 hm) em
  have s3 := s3.more 35 (y := .int .i64 wh) ew
  refine chainK 1 (cc rfl (p_faV0 fa_94_1 g0 (od rfl id)) cn) (by kernel_rfl) s3 fun a4 w4 b4 s4 => ?_
  have z4 := z3.below b4
  have hT := hT.below b4
  have hM := hM.below b4
  have hC := hC.below b4 hC.lt
  have hu := own_below hu b4
  have h7 := h7.below b4 h7.lt
  show wpList _ _ _ (_ :: _) _ _
  refine cells_on (vs := [.int .u64 n]) s4 rfl rfl rfl (s4.get 36 rfl) (s4.get 26 rfl) rfl h7 (by simp) sz_28' (fun u hu => by rw [List.mem_singleton.1 hu]; rfl) (vv 0 rfl (vv 1 rfl (vv 2 rfl (vv 7 rfl (vv 29 rfl (vv 35 rfl vn)))))) fun a5 w5 hq5 gS s5 => ?_
  have hT := hT.grown gS (fun j hj e => tab_ty hT h7 (by decide) (by decide) (by decide) (by decide) (by injection e with e; rw [e]; exact hj))
  have hM := hM.grown gS (fun e => map_ne h7 hM (by injection e))
  have hC := hC.grown gS (fun e => blk_ne hC h7 (by decide) (by injection e))
  have hu := own_grownR hu gS (.inr (row_ne h7 hu (by decide)))
  have h7 : Blk w5 g7 94 (cA ⟨xk, n, xh, xw, xo⟩) := hq5
  have z5 := z4.grown gS (fun x _ e => by injection e with e; subst e; exact bg7)
  refine chainK 1 (cc rfl (p_faV0 fa_94_2 g0 (od rfl id)) cn) (by kernel_rfl) s5 fun a6 w6 b6 s6 => ?_
  have z6 := z5.below b6
  have hT := hT.below b6
  have hM := hM.below b6
  have hC := hC.below b6 hC.lt
  have hu := own_below hu b6
  have h7 := h7.below b6 h7.lt
  show wpList _ _ _ (_ :: _) _ _
  refine cells_on (vs := [.int .u64 hm]) s6 rfl rfl rfl (s6.get 37 rfl) (s6.get 29 rfl) rfl h7 (by simp) sz_28' (fun u hu => by rw [List.mem_singleton.1 hu]; rfl) (vv 0 rfl (vv 1 rfl (vv 2 rfl (vv 7 rfl (vv 35 rfl vn))))) fun a7 w7 hq7 gS s7 => ?_
  have hT := hT.grown gS (fun j hj e => tab_ty hT h7 (by decide) (by decide) (by decide) (by decide) (by injection e with e; rw [e]; exact hj))
  have hM := hM.grown gS (fun e => map_ne h7 hM (by injection e))
  have hC := hC.grown gS (fun e => blk_ne hC h7 (by decide) (by injection e))
  have hu := own_grownR hu gS (.inr (row_ne h7 hu (by decide)))
  have h7 : Blk w7 g7 94 (cA ⟨xk, n, hm, xw, xo⟩) := hq7
  have z7 := z6.grown gS (fun x _ e => by injection e with e; subst e; exact bg7)
  refine chainK 1 (cc rfl (p_faV0 fa_94_3 g0 (od rfl id)) cn) (by kernel_rfl) s7 fun a8 w8 b8 s8 => ?_
  have z8 := z7.below b8
  have hT := hT.below b8
  have hM := hM.below b8
  have hC := hC.below b8 hC.lt
  have hu := own_below hu b8
  have h7 := h7.below b8 h7.lt
  show wpList _ _ _ (_ :: _) _ _
  refine cells_on (vs := [.int .i64 wh]) s8 rfl rfl rfl (s8.get 38 rfl) (s8.get 35 rfl) rfl h7 (by simp) sz_3' (fun u hu => by rw [List.mem_singleton.1 hu]; rfl) (vv 0 rfl (vv 1 rfl (vv 2 rfl (vv 7 rfl vn)))) fun a9 w9 hq9 gS s9 => ?_
  have hT := hT.grown gS (fun j hj e => tab_ty hT h7 (by decide) (by decide) (by decide) (by decide) (by injection e with e; rw [e]; exact hj))
  have hM := hM.grown gS (fun e => map_ne h7 hM (by injection e))
  have hC := hC.grown gS (fun e => blk_ne hC h7 (by decide) (by injection e))
  have hu := own_grownR hu gS (.inr (row_ne h7 hu (by decide)))
  have h7 : Blk w9 g7 94 (cA ⟨xk, n, hm, wh, xo⟩) := hq9
  have z9 := z8.grown gS (fun x _ e => by injection e with e; subst e; exact bg7)
  refine wpList_done ?_
  refine wp_seq ?_
  refine wp_seq ?_
  have s9 := s9.more 7 (y := .bp g7 94 ((cA ⟨xk, n, hm, wh, xo⟩)) 0) (at_obj h7 (s9.get 7 rfl))
  refine flowC mixed (s9.keep (sc 0 rfl (sc 1 rfl (sc 2 rfl (sc 7 rfl sn))))) (by kernel_rfl) (by kernel_rfl) (cc rfl (p_faB fa_94_0 g0 (od rfl id))
      (cc rfl (p_ldB ld_3 rfl g0 (od rfl id))
      (cc rfl (p_bin g0 (od rfl id) (oc _) b_and_3)
      (cc rfl (p_bin g0 (od rfl id) (oc _) b_gtr_3) cn)))) fun a10 w10 b10 s10 => ?_
  have z10 := z9.below b10
  have hT := hT.below b10
  have hM := hM.below b10
  have hC := hC.below b10 hC.lt
  have hu := own_below hu b10
  have h7 := h7.below b10 h7.lt
  have s10 := s10.more 7 (y := .val (ptrV g7)) (s10.get 7 rfl).1
  refine s10.cond 42 rfl (fun _ => ?_) (fun h => absurd h (by rw [h42x]; simp))
  refine wp_seq ?_
  refine wp_region_lit ?_
  refine with_st (s10.keep (sc 0 rfl (sc 1 rfl (sc 2 rfl (sc 7 rfl sn))))) fun s10 => ?_
  have s10 := s10.more 1 (y := .both (.val (.map (some gm))) (.map .u64 (mV mm))) (at_mp hM (s10.get 1 rfl))
  have s10 := s10.more 7 (y := .bp g7 94 ((cA ⟨xk, n, hm, wh, xo⟩)) 0) (at_obj h7 (s10.get 7 rfl))
  refine chainK 7 (cc rfl (p_move g0 (od rfl id))
      (cc rfl (p_faB fa_94_2 g0 (od rfl id))
      (cc rfl (p_ldB ld_28 rfl g0 (od rfl id))
      (cc rfl (p_lookT g0 (od rfl id) (od rfl id))
      (cc rfl (p_move g0 (od rfl id))
      (cc rfl (p_extT (i := 0) (v := cV (crOf mm hm)) rfl g0 (od rfl id))
      (cc rfl (p_extT (i := 1) (v := .bool ((nms mm).contains hm)) rfl g0 (od rfl id)) cn))))))) (by kernel_rfl) s10 fun a11 w11 b11 s11 => ?_
  have z11 := z10.below b11
  have hT := hT.below b11
  have hM := hM.below b11
  have hC := hC.below b11 hC.lt
  have hu := own_below hu b11
  have h7 := h7.below b11 h7.lt
  have s11 := s11.more 1 (y := .val (.map (some gm))) (s11.get 1 rfl).1
  have s11 := s11.more 7 (y := .val (ptrV g7)) (s11.get 7 rfl).1
  show wpList _ _ _ (_ :: _) _ _
  have l7 := h7.lt
  refine alloc_on (u := 94) (z := (cA zR)) s11 (by simp [Region.wanted]) rfl (by decide) (al_94 _ _) (vv 0 rfl (vv 1 rfl (vv 2 rfl (vv 7 rfl (vv 48 rfl (vv 49 rfl vn)))))) fun g9 a12 w12 h9 ng9 b12 s12 => ?_
  have bg9 : B ≤ g9 := Nat.le_trans hwB (Nat.le_trans z11.size ng9)
  have hT := hT.below b12
  have hM := hM.below b12
  have hC := hC.below b12 hC.lt
  have hu := own_below hu b12
  have h7 := h7.below b12 h7.lt
  have z12 := z11.below b12
  have n79 : g7 ≠ g9 := fun e => absurd l7 (Nat.not_lt.2 (e ▸ ng9))
  show wpList _ _ _ (_ :: _) _ _
  refine cells_on (vs := cL (crOf mm hm)) s12 rfl rfl rfl (s12.get 9 rfl) (s12.get 48 rfl) rfl h9 (by simp) (sz_94c _) cL_one (vv 0 rfl (vv 1 rfl (vv 2 rfl (vv 7 rfl (vv 9 rfl (vv 49 rfl vn)))))) fun a13 w13 hq13 gS s13 => ?_
  have hT := hT.grown gS (fun j hj e => tab_ty hT h9 (by decide) (by decide) (by decide) (by decide) (by injection e with e; rw [e]; exact hj))
  have hM := hM.grown gS (fun e => map_ne h9 hM (by injection e))
  have hC := hC.grown gS (fun e => blk_ne hC h9 (by decide) (by injection e))
  have hu := own_grownR hu gS (.inr (row_ne h9 hu (by decide)))
  have h7 := h7.grown gS (fun e => n79 (by injection e))
  have h9 : Blk w13 g9 94 (cA (crOf mm hm)) := hq13
  have z13 := z12.grown gS (fun x _ e => by injection e with e; subst e; exact bg9)
  refine chainK 1 (cc rfl (p_assign g0 (od rfl id)) cn) (by kernel_rfl) s13 fun a14 w14 b14 s14 => ?_
  have z14 := z13.below b14
  have hT := hT.below b14
  have hM := hM.below b14
  have hC := hC.below b14 hC.lt
  have hu := own_below hu b14
  have h7 := h7.below b14 h7.lt
  have h9 := h9.below b14 h9.lt
  refine wpList_done ?_
  refine wp_seq ?_
  have s14 := s14.more 1 (y := .both (.val (.map (some gm))) (.map .u64 (mV mm))) (at_mp hM (s14.get 1 rfl))
  have s14 := s14.more 7 (y := .bp g7 94 ((cA ⟨xk, n, hm, wh, xo⟩)) 0) (at_obj h7 (s14.get 7 rfl))
  have s14 := s14.more 9 (y := .bp g9 94 (cA (crOf mm hm)) 0) (at_obj h9 (s14.get 9 rfl))
  refine flowC mixed (s14.keep (sc 0 rfl (sc 1 rfl (sc 2 rfl (sc 7 rfl (sc 9 rfl (sc 10 rfl sn))))))) (by kernel_rfl) (by kernel_rfl) (cc rfl (p_faB fa_94_1 g0 (od rfl id))
      (cc rfl (p_ldB ld_28 rfl g0 (od rfl id))
      (cc rfl (p_bin g0 (od rfl id) (oc _) b_neq_28)
      (cc rfl (p_move g0 (od rfl id))
      (cc rfl (p_move (g1 rfl rfl) (od rfl (fun _ => rfl)))
      (cc rfl (p_faB fa_94_1 (g1 rfl rfl) (od rfl (fun _ => rfl)))
      (cc rfl (p_ldB ld_28 rfl (g1 rfl rfl) (od rfl id))
      (cc rfl (p_lookC (g1 rfl rfl) (od rfl id) (od rfl id))
      (cc rfl (p_done (y := .val _) bd_94 (fun _ _ => rfl) (g1 rfl rfl))
      (cc rfl (p_bin (g1 rfl rfl) (od rfl id) (od rfl id) bc_eql)
      (cc rfl (p_and g0 (od rfl id) (od rfl id))
      (cc rfl (p_move g0 (od rfl id))
      (cc rfl (p_move (g1 rfl rfl) (od rfl (fun _ => rfl)))
      (cc rfl (p_move (g1 rfl rfl) (od rfl id))
      (cc rfl (p_faB fa_94_3 (g1 rfl rfl) (od rfl (fun _ => rfl)))
      (cc rfl (p_ldB ld_3 rfl (g1 rfl rfl) (od rfl id))
      (cc rfl (p_bin (g1 rfl rfl) (od rfl id) (oc _) b_eql_3)
      (cc rfl (p_and (g1 rfl rfl) (od rfl id) (od rfl id))
      (cc rfl (p_move (g1 rfl rfl) (od rfl id))
      (cc rfl (p_faB fa_94_1 (g1 rfl rfl) (od rfl (fun _ => rfl)))
      (cc rfl (p_ldB ld_28 rfl (g1 rfl rfl) (od rfl id))
      (cc rfl (p_bin (g1 rfl rfl) (od rfl id) (oc _) b_eql_28)
      (cc rfl (p_move (g1 rfl rfl) (od rfl id))
      (cc rfl (p_faB fa_94_2 (g1 rfl rfl) (od rfl (fun _ => rfl)))
      (cc rfl (p_ldB ld_28 rfl (g1 rfl rfl) (od rfl id))
      (cc rfl (p_bin (g1 rfl rfl) (od rfl id) (oc _) b_eql_28)
      (cc rfl (p_and (g1 rfl rfl) (od rfl id) (od rfl id))
      (cc rfl (p_move (g1 rfl rfl) (od rfl id))
      (cc rfl (p_move (g1 rfl rfl) (od rfl (fun _ => rfl)))
      (cc rfl (p_not (g1 rfl rfl) (od rfl id))
      (cc rfl (p_and (g1 rfl rfl) (od rfl id) (od rfl id))
      (cc rfl (p_or (g1 rfl rfl) (od rfl id) (od rfl id))
      (cc rfl (p_and g0 (od rfl id) (od rfl id))
      (cc rfl (p_assign g0 (od rfl id)) cn)))))))))))))))))))))))))))))))))) fun a15 w15 b15 s15 => ?_
  have z15 := z14.below b15
  have hT := hT.below b15
  have hM := hM.below b15
  have hC := hC.below b15 hC.lt
  have hu := own_below hu b15
  have h7 := h7.below b15 h7.lt
  have h9 := h9.below b15 h9.lt
  have s15 := s15.more 1 (y := .val (.map (some gm))) (s15.get 1 rfl).1
  have s15 := s15.more 7 (y := .val (ptrV g7)) (s15.get 7 rfl).1
  have s15 := s15.more 9 (y := .val (ptrV g9)) (s15.get 9 rfl).1
  have s15 := s15.more 11 (y := .bool (mayR mm n hm)) (bool_as (s15.get 11 rfl) (by rw [no_zero hI]; rfl))
  refine wp_seq ?_
  refine wp_region_lit ?_
  refine with_st (s15.keep (sc 0 rfl (sc 1 rfl (sc 2 rfl (sc 7 rfl (sc 11 rfl sn)))))) fun s15 => ?_
  have s15 := s15.more 7 (y := .bp g7 94 ((cA ⟨xk, n, hm, wh, xo⟩)) 0) (at_obj h7 (s15.get 7 rfl))
  refine chainK 7 (cc rfl (p_faB fa_94_1 g0 (od rfl id))
      (cc rfl (p_ldB ld_28 rfl g0 (od rfl id))
      (cc rfl (p_faB fa_94_3 g0 (od rfl id))
      (cc rfl (p_ldB ld_3 rfl g0 (od rfl id))
      (cc rfl (p_faB fa_94_2 g0 (od rfl id))
      (cc rfl (p_ldB ld_28 rfl g0 (od rfl id))
      (cc rfl (p_run3 (od rfl id) (od rfl id) (od rfl id) bd_48r (fun s h => by simpa [Op.operands, slotsOf] using h) g0) cn))))))) (by kernel_rfl) s15 fun a16 w16 b16 s16 => ?_
  have z16 := z15.below b16
  have hT := hT.below b16
  have hM := hM.below b16
  have hC := hC.below b16 hC.lt
  have hu := own_below hu b16
  have h7 := h7.below b16 h7.lt
  have s16 := s16.more 7 (y := .val (ptrV g7)) (s16.get 7 rfl).1
  show wpList _ _ _ (_ :: _) _ _
  have hTq := hT
  refine alloc_on (u := 48) (z := toC ⟨n, wh, hm, [], none⟩ (.slice none 0 0)) s16 (by simp [Region.wanted]) rfl (by decide) (bx_48' _ _ _ (s16.get 89 rfl)) (vv 0 rfl (vv 1 rfl (vv 2 rfl (vv 7 rfl (vv 11 rfl vn))))) fun g2 a17 w17 hB2 ng2 b17 s17 => ?_
  have bg2 : B ≤ g2 := Nat.le_trans hwB (Nat.le_trans z16.size ng2)
  have hT := hT.below b17
  have hM := hM.below b17
  have hC := hC.below b17 hC.lt
  have hu := own_below hu b17
  have h7 := h7.below b17 h7.lt
  have z17 := z16.below b17
  have hng2 : t.ob g2 = none := no_at hTq ng2
  refine chainK 1 (cc rfl (p_assign g0 (od rfl id)) cn) (by kernel_rfl) s17 fun a18 w18 b18 s18 => ?_
  have z18 := z17.below b18
  have hT := hT.below b18
  have hM := hM.below b18
  have hC := hC.below b18 hC.lt
  have hu := own_below hu b18
  have h7 := h7.below b18 h7.lt
  have hB2 := hB2.below b18 hB2.lt
  refine wpList_done ?_
  refine wp_seq ?_
  refine wp_seq ?_
  have s18 := s18.more 7 (y := .bp g7 94 ((cA ⟨xk, n, hm, wh, xo⟩)) 0) (at_obj h7 (s18.get 7 rfl))
  refine flowC mixed (s18.keep (sc 0 rfl (sc 1 rfl (sc 2 rfl (sc 7 rfl (sc 11 rfl (sc 12 rfl sn))))))) (by kernel_rfl) (by kernel_rfl) (cc rfl (p_faB fa_94_3 g0 (od rfl id))
      (cc rfl (p_ldB ld_3 rfl g0 (od rfl id))
      (cc rfl (p_bin g0 (od rfl id) (oc _) b_eql_3) cn))) fun a19 w19 b19 s19 => ?_
  have z19 := z18.below b19
  have hT := hT.below b19
  have hM := hM.below b19
  have hC := hC.below b19 hC.lt
  have hu := own_below hu b19
  have h7 := h7.below b19 h7.lt
  have hB2 := hB2.below b19 hB2.lt
  have s19 := s19.more 7 (y := .val (ptrV g7)) (s19.get 7 rfl).1
  refine s19.cond 93 rfl (fun h93 => ?_) (fun h93 => ?_)
  · -- true
    refine wp_region_lit ?_
    refine with_st (s19.keep (sc 0 rfl (sc 1 rfl (sc 2 rfl (sc 7 rfl (sc 11 rfl (sc 12 rfl sn))))))) fun s19 => ?_
    have s19 := s19.more 7 (y := .bp g7 94 ((cA ⟨xk, n, hm, wh, xo⟩)) 0) (at_obj h7 (s19.get 7 rfl))
    refine chainK 4 (cc rfl (p_move g0 (od rfl id))
        (cc rfl (p_faB fa_94_4 g0 (od rfl id))
        (cc rfl (p_ldB ld_3 rfl g0 (od rfl id))
        (cc rfl (p_bin g0 (od rfl id) (oc _) b_and_3) cn)))) (by kernel_rfl) s19 fun a20 w20 b20 s20 => ?_
    have z20 := z19.below b20
    have hT := hT.below b20
    have hM := hM.below b20
    have hC := hC.below b20 hC.lt
    have hu := own_below hu b20
    have h7 := h7.below b20 h7.lt
    have hB2 := hB2.below b20 hB2.lt
    have s20 := s20.more 7 (y := .val (ptrV g7)) (s20.get 7 rfl).1
    obtain ⟨on, eon⟩ : ∃ y : Int, a20.tmps.getD 97 undef = .int .i64 y := ⟨_, s20.get 97 rfl⟩
    have s20 := s20.more 97 (y := .int .i64 on) eon
    refine chainK 1 (cc rfl (p_run1 (od rfl id) bd_66 (fun s h => by simp [Op.operands, h]) g0) cn) (by kernel_rfl) s20 fun a21 w21 b21 s21 => ?_
    have z21 := z20.below b21
    have hT := hT.below b21
    have hM := hM.below b21
    have hC := hC.below b21 hC.lt
    have hu := own_below hu b21
    have h7 := h7.below b21 h7.lt
    have hB2 := hB2.below b21 hB2.lt
    show wpList _ _ _ (_ :: _) _ _
    refine alloc_on (u := 66) (z := thC on) s21 (by simp [Region.wanted]) rfl (by decide) (bx_66 _ _ _ (s21.get 98 rfl)) (vv 0 rfl (vv 1 rfl (vv 2 rfl (vv 7 rfl (vv 11 rfl (vv 12 rfl (vv 94 rfl (vv 98 rfl vn)))))))) fun gx a22 w22 hX ngx b22 s22 => ?_
    have bgx : B ≤ gx := Nat.le_trans hwB (Nat.le_trans z21.size ngx)
    have hT := hT.below b22
    have hM := hM.below b22
    have hC := hC.below b22 hC.lt
    have hu := own_below hu b22
    have h7 := h7.below b22 h7.lt
    have hB2 := hB2.below b22 hB2.lt
    have z22 := z21.below b22
    refine chainK 2 (cc rfl (p_nilV g0 (od rfl id))
        (cc rfl (p_faV0 fa_48_13 g0 (od rfl id)) cn)) (by kernel_rfl) s22 fun a23 w23 b23 s23 => ?_
    have z23 := z22.below b23
    have hT := hT.below b23
    have hM := hM.below b23
    have hC := hC.below b23 hC.lt
    have hu := own_below hu b23
    have h7 := h7.below b23 h7.lt
    have hB2 := hB2.below b23 hB2.lt
    have hX := hX.below b23 hX.lt
    show wpList _ _ _ (_ :: _) _ _
    refine cells_on (vs := [ptrV gx]) s23 rfl rfl rfl (s23.get 101 rfl) (s23.get 99 rfl) rfl hB2 (by simp) sz_42' (fun u hu => by rw [List.mem_singleton.1 hu]; rfl) (vv 0 rfl (vv 1 rfl (vv 2 rfl (vv 7 rfl (vv 11 rfl (vv 12 rfl vn)))))) fun a24 w24 hq24 gS s24 => ?_
    have hT := hT.grown gS (fun j hj e => tab_no' hT hB2 hng2 (by injection e with e; rw [e]; exact hj))
    have hM := hM.grown gS (fun e => map_ne hB2 hM (by injection e))
    have hC := hC.grown gS (fun e => blk_ne hC hB2 (by decide) (by injection e))
    have hu := own_grownR hu gS (.inr (row_ne hB2 hu (by decide)))
    have h7 := h7.grown gS (fun e => blk_ne h7 hB2 (by decide) (by injection e))
    have hX := hX.grown gS (fun e => blk_ne hX hB2 (by decide) (by injection e))
    have hB2 : Blk w24 g2 48 (toC ⟨n, wh, hm, [], some (gx, on)⟩ (.slice none 0 0)) := hq24
    have z24 := z23.grown gS (fun x _ e => by injection e with e; subst e; exact bg2)
    have hO : ObjAt w24 B g2 ⟨n, wh, hm, [], some (gx, on)⟩ (.slice none 0 0) := ⟨hB2, World.ownsRow_nil _ _ _ _, fun y on h => by injection h with h; injection h with h1 h2; subst h1 h2; exact ⟨hX, bgx⟩⟩
    refine wpList_done ?_
    refine wp_seq ?_
    refine wp_seq ?_
    refine wp_region_lit ?_
    refine with_st (s24.keep (sc 0 rfl (sc 1 rfl (sc 2 rfl (sc 7 rfl (sc 11 rfl (sc 12 rfl sn))))))) fun s24 => ?_
    refine chainK 2 (cc rfl (p_move g0 (od rfl id))
        (cc rfl (p_move g0 (od rfl id)) cn)) (by kernel_rfl) s24 fun a25 w25 b25 s25 => ?_
    have z25 := z24.below b25
    have hT := hT.below b25
    have hM := hM.below b25
    have hC := hC.below b25 hC.lt
    have hu := own_below hu b25
    have h7 := h7.below b25 h7.lt
    have hO := hO.below b25
    show wpList _ _ _ (_ :: _) _ _
    refine callO [.tmp 102, .tmp 103] s25 (by simp [Region.wanted]) (fun _ _ => by kernel_rfl) rfl (by decide) (show Calls Try.prog 15 #[a25.tmps.getD 102 undef, a25.tmps.getD 103 undef] w25 _ from by rw [show a25.tmps.getD 102 undef = ptrV gT from s25.get 102 rfl, show a25.tmps.getD 103 undef = ptrV g2 from s25.get 103 rfl]; exact cAddR hT hI hL (by omega) hO bg2 hng2 hn0 rfl) (vv 0 rfl (vv 1 rfl (vv 2 rfl (vv 7 rfl (vv 11 rfl vn))))) fun v26 a26 w26 hR26 s26 => ?_
    obtain ⟨rfl, t3, kv3, hT3, hL3, zA, hB3, hI0, hI1⟩ := hR26
    have hM := hM.only zA (map_out hT hM hnm)
    have hap3 := apart_add4 hu hO hap hB3
    have hu := own_only hu zA (fun g hg hS => hap g hS hg)
    have hC := blk_only hC zA (tab_ty hT hC (by decide) (by decide) (by decide) (by decide))
    have h7 := blk_only h7 zA (tab_ty hT h7 (by decide) (by decide) (by decide) (by decide))
    have z26 := z25.trans zA (fun x hx hS => (hT.lt hS).1)
    have hT := hT3
    refine chainK 2 (cc rfl (p_move g0 (od rfl id))
        (cc rfl (p_bin g0 (od rfl id) (od rfl id) b_neq_4) cn)) (by kernel_rfl) s26 fun a27 w27 b27 s27 => ?_
    have z27 := z26.below b27
    have hT := hT.below b27
    have hM := hM.below b27
    have hC := hC.below b27 hC.lt
    have hu := own_below hu b27
    have h7 := h7.below b27 h7.lt
    refine wpList_done ?_
    refine s27.cond 106 rfl (fun h => absurd h (by simp)) fun _ => ?_
    refine wp_skip ?_
    refine wp_seq ?_
    refine wp_seq ?_
    refine flowC mixed (s27.keep (sc 0 rfl (sc 1 rfl (sc 2 rfl (sc 7 rfl (sc 11 rfl sn)))))) (by kernel_rfl) (by kernel_rfl) (cc rfl (p_move g0 (od rfl id)) cn) fun a28 w28 b28 s28 => ?_
    have z28 := z27.below b28
    have hT := hT.below b28
    have hM := hM.below b28
    have hC := hC.below b28 hC.lt
    have hu := own_below hu b28
    have h7 := h7.below b28 h7.lt
    refine s28.cond 107 rfl (fun h107 => ?_) (fun h107 => ?_)
    · -- true
      have hnk := may_new h107
      have hI3 := hI1 h107 ⟨1, n, hm, wh, xo⟩ rfl rfl rfl rfl
      refine wp_seq ?_
      refine wp_region_lit ?_
      refine with_st (s28.keep (sc 0 rfl (sc 1 rfl (sc 2 rfl (sc 7 rfl sn))))) fun s28 => ?_
      refine chainK 1 (cc rfl (p_faV0 fa_94_0 g0 (od rfl id)) cn) (by kernel_rfl) s28 fun a29 w29 b29 s29 => ?_
      have z29 := z28.below b29
      have hT := hT.below b29
      have hM := hM.below b29
      have hC := hC.below b29 hC.lt
      have hu := own_below hu b29
      have h7 := h7.below b29 h7.lt
      show wpList _ _ _ (_ :: _) _ _
      refine cells_on (vs := [.int .i64 1]) s29 rfl rfl rfl (s29.get 108 rfl) rfl rfl h7 (by simp) sz_3' (fun u hu => by rw [List.mem_singleton.1 hu]; rfl) (vv 0 rfl (vv 1 rfl (vv 2 rfl (vv 7 rfl vn)))) fun a30 w30 hq30 gS s30 => ?_
      have hT := hT.grown gS (fun j hj e => tab_ty hT h7 (by decide) (by decide) (by decide) (by decide) (by injection e with e; rw [e]; exact hj))
      have hM := hM.grown gS (fun e => map_ne h7 hM (by injection e))
      have hC := hC.grown gS (fun e => blk_ne hC h7 (by decide) (by injection e))
      have hu := own_grownR hu gS (.inr (row_ne h7 hu (by decide)))
      have h7 : Blk w30 g7 94 (cA ⟨1, n, hm, wh, xo⟩) := hq30
      have z30 := z29.grown gS (fun x _ e => by injection e with e; subst e; exact bg7)
      refine wpList_done ?_
      refine wp_seq ?_
      refine wp_region_lit ?_
      refine with_st (s30.keep (sc 0 rfl (sc 1 rfl (sc 2 rfl (sc 7 rfl sn))))) fun s30 => ?_
      have s30 := s30.more 7 (y := .bp g7 94 ((cA ⟨1, n, hm, wh, xo⟩)) 0) (at_obj h7 (s30.get 7 rfl))
      refine chainK 4 (cc rfl (p_move g0 (od rfl id))
          (cc rfl (p_faB fa_94_1 g0 (od rfl id))
          (cc rfl (p_ldB ld_28 rfl g0 (od rfl id))
          (cc rfl (p_ldC g0 (od rfl id)) cn)))) (by kernel_rfl) s30 fun a31 w31 b31 s31 => ?_
      have z31 := z30.below b31
      have hT := hT.below b31
      have hM := hM.below b31
      have hC := hC.below b31 hC.lt
      have hu := own_below hu b31
      have h7 := h7.below b31 h7.lt
      have s31 := s31.more 7 (y := .val (ptrV g7)) (s31.get 7 rfl).1
      show wpList _ _ _ (_ :: _) _ _
      refine upd_on s31 hM rfl rfl rfl (s31.get 109 rfl) (s31.get 111 rfl) (s31.get 112 rfl) Try.underlying92 Try.underlying28 (vv 0 rfl (vv 1 rfl (vv 2 rfl (vv 7 rfl vn)))) fun w32 hM2 gS s32 => ?_
      have hT := hT.grown gS (fun j hj e => map_out hT hM hnm (by injection e with e; rw [e]; exact hj))
      have hC := hC.grown gS (fun e => map_ne hC hM (by injection e))
      have hu := own_grownR hu gS (.inr (row_map hM hu))
      have h7 := h7.grown gS (fun e => map_ne h7 hM (by injection e))
      rw [mV_put _ hnk] at hM2
      have hM := hM2
      have z32 := z31.grown gS (fun x _ e => by injection e with e; subst e; exact hbm)
      refine wpList_done ?_
      obtain ⟨gz, hgz, hn1, hn2, hn3⟩ := away3 hM hu hC h7 (by decide) (by decide)
      have s32 := s32.vals (F' := AtB gz) (fok_atO hgz) (vv 0 rfl (vv 1 rfl (vv 2 rfl (vv 7 rfl vn))))
      have s32 := s32.more 2 (y := .bp gO 29 #[v] 0) ⟨s32.get 2 rfl, hC, fun _ h => hn1 h⟩
      have s32 := s32.more 7 (y := .bp g7 94 ((cA ⟨1, n, hm, wh, xo⟩)) 0) ⟨s32.get 7 rfl, h7, fun _ h => hn2 h⟩
      have s32 := s32.keep (sc 0 rfl (sc 1 rfl (sc 2 rfl (sc 7 rfl sn))))
      refine flowEV 9 7 gz 120 .any (fun wr => Below w32.heap.size w32 wr) (fun v' wr => w32.grownBy wr v.ownBlock ∧ wr.ownsRow B 28 1 v' ((nms mm).length + 1) ((nms mm).flatMap kE ++ kE n) ∧ (v'.ownBlock = v.ownBlock ∨ ∀ x, v'.ownBlock = some x → w32.heap.size ≤ x)) mixed s32 (fun _ => rfl) (Below.refl _ _) (fun h hb => h.trans (hb.mono h.size)) (fun h hb => ⟨only_trans h.1 (only_of_below hb _), own_below h.2.1 hb, h.2.2⟩) (by kernel_rfl) rfl (cc rfl (p_move g0 (od rfl id))
          (cc rfl (p_move g0 (od rfl id))
          (cc rfl (p_nilB g0 (od rfl id))
          (cc rfl (p_ldB ld_29 rfl g0 (od rfl id))
          (cc rfl (p_faB fa_94_1 g0 (od rfl id))
          (cc rfl (p_ldB ld_28 rfl g0 (od rfl id))
          (cc rfl (p_lits1 (E := 28) (fun ev w h1 => by go_simp) g0 (od rfl id)) cn))))))) (by kernel_rfl) (cc rfl (p_nilB g0 (od rfl id)) cn) (by kernel_rfl) (by kernel_rfl) (fun ac wc oc hoc hsz hf hknow hBel R hR => ?_) rfl fun a33 w33 _ hG s33 => ?_
      · obtain rfl := Option.some.inj hoc
        have q116 : ac.tmps.getD 116 undef = v := (hknow 116 (List.contains_iff_mem.1 (by kernel_rfl)) _ rfl).1 rfl
        obtain ⟨gl, q119, hgl, _⟩ := ((hknow 119 (List.contains_iff_mem.1 (by kernel_rfl)) _ rfl).1 rfl).1
        refine app_call (cs := kE n) rfl rfl Try.underlying29 hi0 hz0 hz1 hz2 rfl (by decide) (own_below hu hBel) q116 q119 hgl rfl (fun u hu => by rw [List.mem_singleton.1 hu]; rfl) (by rw [List.length_map]; unfold maxLen; omega) (by rw [List.length_map]; omega) (Nat.le_trans hwB (Nat.le_trans z32.size hBel.size)) fun v' w' h1 h2 h3 => ?_
        refine hR v' w' (grown_to h2 fun x hx => hn3 x hx) (fun u => u.elim) ⟨only_trans (only_of_below hBel _) h2, h1, h3.imp id fun e x hx => by rw [e] at hx; injection hx with hx; rw [← hx]; exact hBel.size⟩ True.intro
      obtain ⟨v2, hv2⟩ : ∃ v, v = a33.tmps.getD 120 undef := ⟨_, rfl⟩
      have s33 := s33.more 120 (y := .val v2) hv2.symm
      rw [← hv2] at hG
      obtain ⟨gG, ow2, eo⟩ := hG
      have s33 := s33.more 2 (y := .val (ptrV gO)) (s33.get 2 rfl).1
      have s33 := s33.more 7 (y := .val (ptrV g7)) (s33.get 7 rfl).1
      have s33 := s33.more 121 (y := .val (ptrV gO)) (s33.get 121 rfl).1
      have s33 := s33.vals (F' := noF) (fok_no _ w33) (vv 0 rfl (vv 1 rfl (vv 2 rfl (vv 7 rfl (vv 120 rfl (vv 121 rfl vn))))))
      have ow2 : w33.ownsRow B 28 1 v2 (nms (mm ++ [(n, ⟨1, n, hm, wh, xo⟩)])).length ((nms (mm ++ [(n, ⟨1, n, hm, wh, xo⟩)])).flatMap kE) := by rw [nms_app, List.length_append, List.flatMap_append]; exact ow2
      have hap4 : ∀ j, TabB gT gM t3 kv3 j → v2.ownBlock ≠ some j := fun j hj e => eo.elim (fun h => hap3 j hj (h ▸ e)) fun h => absurd (hT.lt hj).2 (Nat.not_lt.2 (h j e))
      have hbU : ∀ x, v.ownBlock = some x → B ≤ x := fun x hx => own_base hu hx
      have hT := hT.grown gG (fun j hj => hap3 j hj)
      have hM := hM.grown gG (row_map hM hu)
      have hC := hC.grown gG (Ne.symm (row_ne hC hu (by decide)))
      have z33 := z32.grown gG (fun x _ e => hbU x e)
      show wpList _ _ _ (_ :: _) _ _
      show wpList _ _ _ (_ :: _) _ _
      refine cells_on (vs := [v2]) s33 rfl rfl rfl (s33.get 121 rfl) (s33.get 120 rfl) (slice_one ow2).2 hC (by simp) sz_29' (fun u hu => by rw [List.mem_singleton.1 hu]; exact (slice_one ow2).1) (vv 0 rfl (vv 1 rfl (vv 2 rfl (vv 7 rfl vn)))) fun a34 w34 hq34 gS s34 => ?_
      have hT := hT.grown gS (fun j hj e => tab_ty hT hC (by decide) (by decide) (by decide) (by decide) (by injection e with e; rw [e]; exact hj))
      have hM := hM.grown gS (fun e => map_ne hC hM (by injection e))
      have ow2 := own_grownR ow2 gS (.inr (row_ne hC ow2 (by decide)))
      have hC : Blk w34 gO 29 #[v2] := hq34
      have z34 := z33.grown gS (fun x _ e => by injection e with e; subst e; exact hbo)
      refine wpList_done ?_
      refine wp_seq ?_
      refine flowC mixed (s34.keep (sc 0 rfl (sc 1 rfl (sc 2 rfl (sc 7 rfl sn))))) (by kernel_rfl) (by kernel_rfl) (cc rfl (p_assign g0 (oc _)) cn) fun a35 w35 b35 s35 => ?_
      have z35 := z34.below b35
      have hT := hT.below b35
      have hM := hM.below b35
      have hC := hC.below b35 hC.lt
      have ow2 := own_below ow2 b35
      exact wp_ret (ret_o (fn := Try.f34) (R := fun v w' => v = .bool true ∧ ∃ (t' : Tab) (kv' : Nat → Value) (mm' : Noted) (v' : Value), PAt w' B gT gM gm gO t' kv' mm' v' ∧ RInv t' mm' ∧ LenB t' (k + 1) ∧ OnlyB (fun i => B ≤ i) w w') (v := .bool true) s35 8 rfl rfl ⟨rfl, t3, kv3, (mm ++ [(n, ⟨1, n, hm, wh, xo⟩)]), v2, ⟨hT, hM, hC, ow2, hbm, hbo, hnm, hap4⟩, hI3, hL3, z35⟩)
    · -- false
      have hI3 := hI0 h107
      refine wp_skip ?_
      refine wp_seq ?_
      refine flowC mixed (s28.keep (sc 0 rfl (sc 1 rfl (sc 2 rfl (sc 7 rfl sn))))) (by kernel_rfl) (by kernel_rfl) (cc rfl (p_assign g0 (oc _)) cn) fun a36 w36 b36 s36 => ?_
      have z36 := z28.below b36
      have hT := hT.below b36
      have hM := hM.below b36
      have hC := hC.below b36 hC.lt
      have hu := own_below hu b36
      have h7 := h7.below b36 h7.lt
      exact wp_ret (ret_o (fn := Try.f34) (R := fun v w' => v = .bool true ∧ ∃ (t' : Tab) (kv' : Nat → Value) (mm' : Noted) (v' : Value), PAt w' B gT gM gm gO t' kv' mm' v' ∧ RInv t' mm' ∧ LenB t' (k + 1) ∧ OnlyB (fun i => B ≤ i) w w') (v := .bool true) s36 8 rfl rfl ⟨rfl, t3, kv3, mm, v, ⟨hT, hM, hC, hu, hbm, hbo, hnm, hap3⟩, hI3, hL3, z36⟩)
  · -- false
    have hO : ObjAt w19 B g2 ⟨n, wh, hm, [], none⟩ (.slice none 0 0) := ⟨hB2, World.ownsRow_nil _ _ _ _, fun y on h => by cases h⟩
    refine wp_skip ?_
    refine wp_seq ?_
    refine wp_seq ?_
    refine wp_region_lit ?_
    refine with_st (s19.keep (sc 0 rfl (sc 1 rfl (sc 2 rfl (sc 7 rfl (sc 11 rfl (sc 12 rfl sn))))))) fun s19 => ?_
    refine chainK 2 (cc rfl (p_move g0 (od rfl id))
        (cc rfl (p_move g0 (od rfl id)) cn)) (by kernel_rfl) s19 fun a37 w37 b37 s37 => ?_
    have z37 := z19.below b37
    have hT := hT.below b37
    have hM := hM.below b37
    have hC := hC.below b37 hC.lt
    have hu := own_below hu b37
    have h7 := h7.below b37 h7.lt
    have hO := hO.below b37
    show wpList _ _ _ (_ :: _) _ _
    refine callO [.tmp 102, .tmp 103] s37 (by simp [Region.wanted]) (fun _ _ => by kernel_rfl) rfl (by decide) (show Calls Try.prog 15 #[a37.tmps.getD 102 undef, a37.tmps.getD 103 undef] w37 _ from by rw [show a37.tmps.getD 102 undef = ptrV gT from s37.get 102 rfl, show a37.tmps.getD 103 undef = ptrV g2 from s37.get 103 rfl]; exact cAddR hT hI hL (by omega) hO bg2 hng2 hn0 rfl) (vv 0 rfl (vv 1 rfl (vv 2 rfl (vv 7 rfl (vv 11 rfl vn))))) fun v38 a38 w38 hR38 s38 => ?_
    obtain ⟨rfl, t3, kv3, hT3, hL3, zA, hB3, hI0, hI1⟩ := hR38
    have hM := hM.only zA (map_out hT hM hnm)
    have hap3 := apart_add4 hu hO hap hB3
    have hu := own_only hu zA (fun g hg hS => hap g hS hg)
    have hC := blk_only hC zA (tab_ty hT hC (by decide) (by decide) (by decide) (by decide))
    have h7 := blk_only h7 zA (tab_ty hT h7 (by decide) (by decide) (by decide) (by decide))
    have z38 := z37.trans zA (fun x hx hS => (hT.lt hS).1)
    have hT := hT3
    refine chainK 2 (cc rfl (p_move g0 (od rfl id))
        (cc rfl (p_bin g0 (od rfl id) (od rfl id) b_neq_4) cn)) (by kernel_rfl) s38 fun a39 w39 b39 s39 => ?_
    have z39 := z38.below b39
    have hT := hT.below b39
    have hM := hM.below b39
    have hC := hC.below b39 hC.lt
    have hu := own_below hu b39
    have h7 := h7.below b39 h7.lt
    refine wpList_done ?_
    refine s39.cond 106 rfl (fun h => absurd h (by simp)) fun _ => ?_
    refine wp_skip ?_
    refine wp_seq ?_
    refine wp_seq ?_
    refine flowC mixed (s39.keep (sc 0 rfl (sc 1 rfl (sc 2 rfl (sc 7 rfl (sc 11 rfl sn)))))) (by kernel_rfl) (by kernel_rfl) (cc rfl (p_move g0 (od rfl id)) cn) fun a40 w40 b40 s40 => ?_
    have z40 := z39.below b40
    have hT := hT.below b40
    have hM := hM.below b40
    have hC := hC.below b40 hC.lt
    have hu := own_below hu b40
    have h7 := h7.below b40 h7.lt
    refine s40.cond 107 rfl (fun h107 => ?_) (fun h107 => ?_)
    · -- true
      have hnk := may_new h107
      have hI3 := hI1 h107 ⟨1, n, hm, wh, xo⟩ rfl rfl rfl rfl
      refine wp_seq ?_
      refine wp_region_lit ?_
      refine with_st (s40.keep (sc 0 rfl (sc 1 rfl (sc 2 rfl (sc 7 rfl sn))))) fun s40 => ?_
      refine chainK 1 (cc rfl (p_faV0 fa_94_0 g0 (od rfl id)) cn) (by kernel_rfl) s40 fun a41 w41 b41 s41 => ?_
      have z41 := z40.below b41
      have hT := hT.below b41
      have hM := hM.below b41
      have hC := hC.below b41 hC.lt
      have hu := own_below hu b41
      have h7 := h7.below b41 h7.lt
      show wpList _ _ _ (_ :: _) _ _
      refine cells_on (vs := [.int .i64 1]) s41 rfl rfl rfl (s41.get 108 rfl) rfl rfl h7 (by simp) sz_3' (fun u hu => by rw [List.mem_singleton.1 hu]; rfl) (vv 0 rfl (vv 1 rfl (vv 2 rfl (vv 7 rfl vn)))) fun a42 w42 hq42 gS s42 => ?_
      have hT := hT.grown gS (fun j hj e => tab_ty hT h7 (by decide) (by decide) (by decide) (by decide) (by injection e with e; rw [e]; exact hj))
      have hM := hM.grown gS (fun e => map_ne h7 hM (by injection e))
      have hC := hC.grown gS (fun e => blk_ne hC h7 (by decide) (by injection e))
      have hu := own_grownR hu gS (.inr (row_ne h7 hu (by decide)))
      have h7 : Blk w42 g7 94 (cA ⟨1, n, hm, wh, xo⟩) := hq42
      have z42 := z41.grown gS (fun x _ e => by injection e with e; subst e; exact bg7)
      refine wpList_done ?_
      refine wp_seq ?_
      refine wp_region_lit ?_
      refine with_st (s42.keep (sc 0 rfl (sc 1 rfl (sc 2 rfl (sc 7 rfl sn))))) fun s42 => ?_
      have s42 := s42.more 7 (y := .bp g7 94 ((cA ⟨1, n, hm, wh, xo⟩)) 0) (at_obj h7 (s42.get 7 rfl))
      refine chainK 4 (cc rfl (p_move g0 (od rfl id))
          (cc rfl (p_faB fa_94_1 g0 (od rfl id))
          (cc rfl (p_ldB ld_28 rfl g0 (od rfl id))
          (cc rfl (p_ldC g0 (od rfl id)) cn)))) (by kernel_rfl) s42 fun a43 w43 b43 s43 => ?_
      have z43 := z42.below b43
      have hT := hT.below b43
      have hM := hM.below b43
      have hC := hC.below b43 hC.lt
      have hu := own_below hu b43
      have h7 := h7.below b43 h7.lt
      have s43 := s43.more 7 (y := .val (ptrV g7)) (s43.get 7 rfl).1
      show wpList _ _ _ (_ :: _) _ _
      refine upd_on s43 hM rfl rfl rfl (s43.get 109 rfl) (s43.get 111 rfl) (s43.get 112 rfl) Try.underlying92 Try.underlying28 (vv 0 rfl (vv 1 rfl (vv 2 rfl (vv 7 rfl vn)))) fun w44 hM2 gS s44 => ?_
      have hT := hT.grown gS (fun j hj e => map_out hT hM hnm (by injection e with e; rw [e]; exact hj))
      have hC := hC.grown gS (fun e => map_ne hC hM (by injection e))
      have hu := own_grownR hu gS (.inr (row_map hM hu))
      have h7 := h7.grown gS (fun e => map_ne h7 hM (by injection e))
      rw [mV_put _ hnk] at hM2
      have hM := hM2
      have z44 := z43.grown gS (fun x _ e => by injection e with e; subst e; exact hbm)
      refine wpList_done ?_
      obtain ⟨gz, hgz, hn1, hn2, hn3⟩ := away3 hM hu hC h7 (by decide) (by decide)
      have s44 := s44.vals (F' := AtB gz) (fok_atO hgz) (vv 0 rfl (vv 1 rfl (vv 2 rfl (vv 7 rfl vn))))
      have s44 := s44.more 2 (y := .bp gO 29 #[v] 0) ⟨s44.get 2 rfl, hC, fun _ h => hn1 h⟩
      have s44 := s44.more 7 (y := .bp g7 94 ((cA ⟨1, n, hm, wh, xo⟩)) 0) ⟨s44.get 7 rfl, h7, fun _ h => hn2 h⟩
      have s44 := s44.keep (sc 0 rfl (sc 1 rfl (sc 2 rfl (sc 7 rfl sn))))
      refine flowEV 9 7 gz 120 .any (fun wr => Below w44.heap.size w44 wr) (fun v' wr => w44.grownBy wr v.ownBlock ∧ wr.ownsRow B 28 1 v' ((nms mm).length + 1) ((nms mm).flatMap kE ++ kE n) ∧ (v'.ownBlock = v.ownBlock ∨ ∀ x, v'.ownBlock = some x → w44.heap.size ≤ x)) mixed s44 (fun _ => rfl) (Below.refl _ _) (fun h hb => h.trans (hb.mono h.size)) (fun h hb => ⟨only_trans h.1 (only_of_below hb _), own_below h.2.1 hb, h.2.2⟩) (by kernel_rfl) rfl (cc rfl (p_move g0 (od rfl id))
          (cc rfl (p_move g0 (od rfl id))
          (cc rfl (p_nilB g0 (od rfl id))
          (cc rfl (p_ldB ld_29 rfl g0 (od rfl id))
          (cc rfl (p_faB fa_94_1 g0 (od rfl id))
          (cc rfl (p_ldB ld_28 rfl g0 (od rfl id))
          (cc rfl (p_lits1 (E := 28) (fun ev w h1 => by go_simp) g0 (od rfl id)) cn))))))) (by kernel_rfl) (cc rfl (p_nilB g0 (od rfl id)) cn) (by kernel_rfl) (by kernel_rfl) (fun ac wc oc hoc hsz hf hknow hBel R hR => ?_) rfl fun a45 w45 _ hG s45 => ?_
      · obtain rfl := Option.some.inj hoc
        have q116 : ac.tmps.getD 116 undef = v := (hknow 116 (List.contains_iff_mem.1 (by kernel_rfl)) _ rfl).1 rfl
        obtain ⟨gl, q119, hgl, _⟩ := ((hknow 119 (List.contains_iff_mem.1 (by kernel_rfl)) _ rfl).1 rfl).1
        refine app_call (cs := kE n) rfl rfl Try.underlying29 hi0 hz0 hz1 hz2 rfl (by decide) (own_below hu hBel) q116 q119 hgl rfl (fun u hu => by rw [List.mem_singleton.1 hu]; rfl) (by rw [List.length_map]; unfold maxLen; omega) (by rw [List.length_map]; omega) (Nat.le_trans hwB (Nat.le_trans z44.size hBel.size)) fun v' w' h1 h2 h3 => ?_
        refine hR v' w' (grown_to h2 fun x hx => hn3 x hx) (fun u => u.elim) ⟨only_trans (only_of_below hBel _) h2, h1, h3.imp id fun e x hx => by rw [e] at hx; injection hx with hx; rw [← hx]; exact hBel.size⟩ True.intro
      obtain ⟨v2, hv2⟩ : ∃ v, v = a45.tmps.getD 120 undef := ⟨_, rfl⟩
      have s45 := s45.more 120 (y := .val v2) hv2.symm
      rw [← hv2] at hG
      obtain ⟨gG, ow2, eo⟩ := hG
      have s45 := s45.more 2 (y := .val (ptrV gO)) (s45.get 2 rfl).1
      have s45 := s45.more 7 (y := .val (ptrV g7)) (s45.get 7 rfl).1
      have s45 := s45.more 121 (y := .val (ptrV gO)) (s45.get 121 rfl).1
      have s45 := s45.vals (F' := noF) (fok_no _ w45) (vv 0 rfl (vv 1 rfl (vv 2 rfl (vv 7 rfl (vv 120 rfl (vv 121 rfl vn))))))
      have ow2 : w45.ownsRow B 28 1 v2 (nms (mm ++ [(n, ⟨1, n, hm, wh, xo⟩)])).length ((nms (mm ++ [(n, ⟨1, n, hm, wh, xo⟩)])).flatMap kE) := by rw [nms_app, List.length_append, List.flatMap_append]; exact ow2
      have hap4 : ∀ j, TabB gT gM t3 kv3 j → v2.ownBlock ≠ some j := fun j hj e => eo.elim (fun h => hap3 j hj (h ▸ e)) fun h => absurd (hT.lt hj).2 (Nat.not_lt.2 (h j e))
      have hbU : ∀ x, v.ownBlock = some x → B ≤ x := fun x hx => own_base hu hx
      have hT := hT.grown gG (fun j hj => hap3 j hj)
      have hM := hM.grown gG (row_map hM hu)
      have hC := hC.grown gG (Ne.symm (row_ne hC hu (by decide)))
      have z45 := z44.grown gG (fun x _ e => hbU x e)
      show wpList _ _ _ (_ :: _) _ _
      show wpList _ _ _ (_ :: _) _ _
      refine cells_on (vs := [v2]) s45 rfl rfl rfl (s45.get 121 rfl) (s45.get 120 rfl) (slice_one ow2).2 hC (by simp) sz_29' (fun u hu => by rw [List.mem_singleton.1 hu]; exact (slice_one ow2).1) (vv 0 rfl (vv 1 rfl (vv 2 rfl (vv 7 rfl vn)))) fun a46 w46 hq46 gS s46 => ?_
      have hT := hT.grown gS (fun j hj e => tab_ty hT hC (by decide) (by decide) (by decide) (by decide) (by injection e with e; rw [e]; exact hj))
      have hM := hM.grown gS (fun e => map_ne hC hM (by injection e))
      have ow2 := own_grownR ow2 gS (.inr (row_ne hC ow2 (by decide)))
      have hC : Blk w46 gO 29 #[v2] := hq46
      have z46 := z45.grown gS (fun x _ e => by injection e with e; subst e; exact hbo)
      refine wpList_done ?_
      refine wp_seq ?_
      refine flowC mixed (s46.keep (sc 0 rfl (sc 1 rfl (sc 2 rfl (sc 7 rfl sn))))) (by kernel_rfl) (by kernel_rfl) (cc rfl (p_assign g0 (oc _)) cn) fun a47 w47 b47 s47 => ?_
      have z47 := z46.below b47
      have hT := hT.below b47
      have hM := hM.below b47
      have hC := hC.below b47 hC.lt
      have ow2 := own_below ow2 b47
      exact wp_ret (ret_o (fn := Try.f34) (R := fun v w' => v = .bool true ∧ ∃ (t' : Tab) (kv' : Nat → Value) (mm' : Noted) (v' : Value), PAt w' B gT gM gm gO t' kv' mm' v' ∧ RInv t' mm' ∧ LenB t' (k + 1) ∧ OnlyB (fun i => B ≤ i) w w') (v := .bool true) s47 8 rfl rfl ⟨rfl, t3, kv3, (mm ++ [(n, ⟨1, n, hm, wh, xo⟩)]), v2, ⟨hT, hM, hC, ow2, hbm, hbo, hnm, hap4⟩, hI3, hL3, z47⟩)
    · -- false
      have hI3 := hI0 h107
      refine wp_skip ?_
      refine wp_seq ?_
      refine flowC mixed (s40.keep (sc 0 rfl (sc 1 rfl (sc 2 rfl (sc 7 rfl sn))))) (by kernel_rfl) (by kernel_rfl) (cc rfl (p_assign g0 (oc _)) cn) fun a48 w48 b48 s48 => ?_
      have z48 := z40.below b48
      have hT := hT.below b48
      have hM := hM.below b48
      have hC := hC.below b48 hC.lt
      have hu := own_below hu b48
      have h7 := h7.below b48 h7.lt
      exact wp_ret (ret_o (fn := Try.f34) (R := fun v w' => v = .bool true ∧ ∃ (t' : Tab) (kv' : Nat → Value) (mm' : Noted) (v' : Value), PAt w' B gT gM gm gO t' kv' mm' v' ∧ RInv t' mm' ∧ LenB t' (k + 1) ∧ OnlyB (fun i => B ≤ i) w w') (v := .bool true) s48 8 rfl rfl ⟨rfl, t3, kv3, mm, v, ⟨hT, hM, hC, hu, hbm, hbo, hnm, hap3⟩, hI3, hL3, z48⟩)

end Go.Proofs.Ytbeeiecbbmiojaa.Y
