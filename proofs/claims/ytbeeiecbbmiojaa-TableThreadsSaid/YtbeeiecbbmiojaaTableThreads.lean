/- TableThreads: the threads of a container on a core are told in the order in which they came. -/
import Derived.Test.YtbeeiecbbmiojaaYtw
import Derived.Test.YtbeeiecbbmiojaaHead
namespace Go.Proofs.Ytbeeiecbbmiojaa.Y
open Go.RowKit Go.ChangeShapes Go.WideShapes Go.ChangeAt Go.ChangeMaps Go.MapKept

theorem sz_3 : (Try.prog.info? 3).map (·.size) = some 1 := by kernel_rfl
theorem sz_42 : (Try.prog.info? 42).map (·.size) = some 1 := by kernel_rfl
theorem tab_no {w : World} {B gT gM g : Nat} {t : Tab} {kv : Nat → Value} {cs : Array Value} (h : TabAt w B gT gM t kv) (hA : Blk w g 48 cs) (hn : t.ob g = none) : ¬ TabB gT gM t kv g := fun hi => by
  rcases hi with rfl | rfl | ⟨x, o, h1, rfl | h2 | ⟨on, h2⟩⟩
  · exact blk_ne h.tb hA (by decide) rfl
  · exact map_ne hA h.mp rfl
  · rw [hn] at h1; cases h1
  · exact row_ne hA (h.ob _ _ h1).row (by decide) h2
  · exact blk_ne ((h.ob _ _ h1).th _ _ h2).1 hA (by decide) rfl
theorem WAt.as {w : World} {B gA : Nat} {S : Nat → Prop} {U : Nat → Value} {W W2 : Nat → List Int} (h : WAt w B gA S U W) (hw : ∀ k, W k = W2 k) : WAt w B gA S U W2 := by
  obtain rfl : W = W2 := funext hw
  exact h
theorem apart_add3 {w : World} {B B2 n gT gM g : Nat} {t t2 : Tab} {kv kv2 : Nat → Value} {u v : Value} {xs : List Value} {o : TO} (hu : w.ownsRow B 28 1 u n xs) (hO : ObjAt w B2 g o v) (hs : ∀ j, TabB gT gM t kv j → u.ownBlock ≠ some j) (h2 : ∀ i, TabB gT gM t2 kv2 i → TabB gT gM t kv i ∨ i = g ∨ (∃ on, o.th = some (i, on)) ∨ w.heap.size ≤ i) : ∀ j, TabB gT gM t2 kv2 j → u.ownBlock ≠ some j := fun j hj e => by
  rcases h2 j hj with h | h | ⟨_, h⟩ | h
  · exact hs j h e
  · subst h; exact row_ne hO.blk hu (by decide) e
  · exact row_ne (hO.th _ _ h).1 hu (by decide) e
  · exact absurd (own_lt hu e) (Nat.not_lt.2 h)
theorem thr_kid {t : Tab} {l : List Int} {n : Nat} {gs : List Nat} (hl : gs.length = n) (h : ∀ j, j < n → ∃ g o, gs[j]? = some g ∧ t.ob g = some o ∧ KidIs (l.getD j 0) j o) {g : Nat} (hg : g ∈ gs) : ∃ o, t.ob g = some o ∧ (o.kind = 3 → ∃ x y, o.th = some (x, y)) := by
  obtain ⟨j, hj, e⟩ := List.getElem_of_mem hg
  obtain ⟨g2, o, h1, h2, _, _, _, h6⟩ := h j (by omega)
  rw [List.getElem?_eq_getElem hj, e] at h1
  injection h1 with h1
  subst h1
  refine ⟨o, h2, fun hk => ?_⟩
  rcases h6 with ⟨_, _, y, c⟩ | ⟨_, b, _⟩
  · exact ⟨y, _, c⟩
  · omega
theorem thr_at {t : Tab} {l : List Int} {n k m g : Nat} {gs : List Nat} {want : List Int} (hl : gs.length = n) (h : ∀ j, j < n → ∃ g o, gs[j]? = some g ∧ t.ob g = some o ∧ KidIs (l.getD j 0) j o) (hg : (gs.filter (isT t (k : Int)))[m]? = some g) (hw : (gs.filter (isT t (k : Int))).map (nameOf t) = want) : ∃ o, t.ob g = some o ∧ want[m]? = some o.name := by
  obtain ⟨j, hj, e⟩ := List.getElem_of_mem (List.mem_filter.1 (List.mem_of_getElem? hg)).1
  obtain ⟨g2, o, h1, h2, _⟩ := h j (by omega)
  rw [List.getElem?_eq_getElem hj, e] at h1
  injection h1 with h1
  subst h1
  refine ⟨o, h2, ?_⟩
  rw [← hw, List.getElem?_map, hg]
  show some (nameOf t g) = _
  unfold nameOf
  rw [h2]
set_option maxRecDepth 100000 in
set_option maxHeartbeats 3200000 in
/-- The walk of the law on threads. -/
theorem tableThreads_walk {w : World} {v0 : Value} {l : List Int} (h0 : (.one (Lay.sl (Lay.int .i64)) l : Sym).on w noF v0) : Calls Try.prog 4 #[v0] w fun e w' => ∃ v, e = .returned v ∧ v = .bool true ∧ Below w.heap.size w w' := by
  obtain ⟨i0, hi0, hz0, hz1, hz2⟩ := info_parts Try.info28
  have z0 : OnlyB (fun _ => False) w w := OnlyB.refl _ _
  go_enter Try.func4, Try.ntmps4
  refine wp_seq ?_
  refine flowC mixed (st0 (U := False) (N := 111) (e := [(0, true, .val (v0))]) (F := noF) rfl rfl (fok_no _ _) ⟨⟨rfl, rfl⟩, True.intro⟩) (by kernel_rfl) (by kernel_rfl) (cc rfl (p_assign g0 (oc _)) cn) fun a1 w1 b1 s1 => ?_
  have z1 := z0.below b1
  refine wp_seq ?_
  refine wp_seq ?_
  refine wp_region_lit ?_
  refine with_st (s1.keep (sc 0 rfl sn)) fun s1 => ?_
  show wpList _ _ _ (_ :: _) _ _
  refine callO [] s1 (by simp [Region.wanted]) (fun _ _ => by kernel_rfl) rfl (by decide) cFit (vv 0 rfl vn) fun v2 a2 w2 hR2 s2 => ?_
  obtain ⟨rfl, b2⟩ := hR2
  have z2 := z1.below b2
  refine chainK 1 (cc rfl (p_not g0 (od rfl id)) cn) (by kernel_rfl) s2 fun a3 w3 b3 s3 => ?_
  have z3 := z2.below b3
  refine wpList_done ?_
  refine s3.cond 13 rfl (fun h => absurd h (by simp)) fun _ => ?_
  refine wp_skip ?_
  refine wp_seq ?_
  refine wp_seq ?_
  have s3 := s3.more 0 (y := .both (.val v0) (.one (Lay.sl (Lay.int .i64)) l)) ⟨s3.get 0 rfl, at_in h0 z3 (s3.get 0 rfl)⟩
  refine flowC mixed (s3.keep (sc 0 rfl sn)) (by kernel_rfl) (by kernel_rfl) (cc rfl (p_move g0 (od rfl id))
      (cc rfl (p_len ln_22 g0 (od2 rfl id))
      (cc rfl (p_bin g0 (od rfl id) (oc _) b_gtr_3) cn))) fun a4 w4 b4 s4 => ?_
  have z4 := z3.below b4
  have s4 := s4.more 0 (y := .val v0) (s4.get 0 rfl).1
  refine s4.cond 16 rfl (fun h16 => ?_) (fun h16 => ?_)
  · -- true
    refine wp_seq ?_
    refine flowC mixed (s4.keep (sc 0 rfl sn)) (by kernel_rfl) (by kernel_rfl) (cc rfl (p_assign g0 (oc _)) cn) fun a5 w5 b5 s5 => ?_
    have z5 := z4.below b5
    exact wp_ret (ret_o (fn := Try.f4) (R := fun v w' => v = .bool true ∧ Below w.heap.size w w') (v := .bool true) s5 2 rfl rfl ⟨rfl, z5.to_below (fun _ _ h => h) (Nat.le_refl _)⟩)
  · -- false
    have hl60 : l.length ≤ 100 := by have := of_decide_eq_false h16; (try dsimp only at this); omega
    refine wp_skip ?_
    refine wp_seq ?_
    refine wp_region_lit ?_
    refine with_st (s4.keep (sc 0 rfl sn)) fun s4 => ?_
    show wpList _ _ _ (_ :: _) _ _
    refine callO (R := fun v w' => ∃ gT gM, v = ptrV gT ∧ TabAt w' w4.heap.size gT gM T0 (fun _ => .slice none 0 0) ∧ Below w4.heap.size w4 w') [] s4 (by simp [Region.wanted]) (fun _ _ => by kernel_rfl) rfl (by decide) cNew (vv 0 rfl vn) fun v6 a6 w6 hR6 s6 => ?_
    obtain ⟨gT, gM, rfl, hT, b6⟩ := hR6
    have hbase := z4.size
    have z6 := z4.below b6
    refine chainK 1 (cc rfl (p_assign g0 (od rfl id)) cn) (by kernel_rfl) s6 fun a7 w7 b7 s7 => ?_
    have z7 := z6.below b7
    have hT := hT.below b7
    refine wpList_done ?_
    refine wp_seq ?_
    refine wp_region_lit ?_
    refine with_st (s7.keep (sc 0 rfl (sc 3 rfl sn))) fun s7 => ?_
    refine chainK 2 (cc rfl (p_move g0 (od rfl id))
        (cc rfl (p_done (y := .val _) bd_48a (fun _ _ => rfl) g0) cn)) (by kernel_rfl) s7 fun a8 w8 b8 s8 => ?_
    have z8 := z7.below b8
    have hT := hT.below b8
    show wpList _ _ _ (_ :: _) _ _
    refine alloc_on (u := 48) (z := toC rootO (.slice none 0 0)) s8 (by simp [Region.wanted]) rfl (by decide) (bx_48 _ _ _ (s8.get 19 rfl)) (vv 0 rfl (vv 3 rfl (vv 18 rfl vn))) fun gr a9 w9 hBgr hgr b9 s9 => ?_
    have hngr : (T0 : Tab).ob gr = none := no_at hT hgr
    have hgr := Nat.le_trans (Nat.le_of_lt (Nat.lt_of_le_of_lt hT.bT hT.tb.lt)) hgr
    have hT := hT.below b9
    have z9 := z8.below b9
    have hO := objAt0 (B := w4.heap.size) (o := rootO) rfl rfl hBgr rfl
    show wpList _ _ _ (_ :: _) _ _
    refine callO [.tmp 18, .tmp 20] s9 (by simp [Region.wanted]) (fun _ _ => by kernel_rfl) rfl (by decide) (show Calls Try.prog 15 #[a9.tmps.getD 18 undef, a9.tmps.getD 20 undef] w9 _ from by rw [show a9.tmps.getD 18 undef = ptrV gT from s9.get 18 rfl, show a9.tmps.getD 20 undef = ptrV gr from s9.get 20 rfl]; exact cAdd hT hO hgr hngr (fun _ _ h => by cases h) (fun _ _ h => by cases h)) (vv 0 rfl (vv 3 rfl vn)) fun v10 a10 w10 hR10 s10 => ?_
    obtain ⟨rfl, _, hyes⟩ := hR10
    obtain ⟨kv1, hT2, zA, _⟩ := hyes (fit_1 gr).1
    rw [(fit_1 gr).2] at hT2
    have z10 := z9.trans zA (fun x hx hS => absurd (Nat.le_trans hbase (hT.lt hS).1) (Nat.not_le.2 hx))
    have hT := hT2
    refine wpList_done ?_
    refine wp_seq ?_
    refine wp_region_lit ?_
    refine with_st (s10.keep (sc 0 rfl (sc 3 rfl sn))) fun s10 => ?_
    show wpList _ _ _ (_ :: _) _ _
    refine alloc_on (u := 54) (z := #[.slice none 0 0, .slice none 0 0, .slice none 0 0, .slice none 0 0]) s10 (by simp [Region.wanted]) rfl (by decide) (al_54 _ _) (vv 0 rfl (vv 3 rfl vn)) fun gA a11 w11 hA hgA b11 s11 => ?_
    have hgA := Nat.le_trans (Nat.le_of_lt (Nat.lt_of_le_of_lt hT.bT hT.tb.lt)) hgA
    have hT := hT.below b11
    have z11 := z10.below b11
    have hW : WAt w11 w4.heap.size gA (TabB gT gM (T1 gr) kv1) (fun _ => .slice none 0 0) (wantL l 0) := ⟨hA, fun _ _ => World.ownsRow_nil _ _ _ _, (fun _ _ _ _ h => by cases h), (fun _ _ _ _ _ => .inl rfl), hgA⟩
    refine wpList_done ?_
    refine wp_seq ?_
    refine wp_seq ?_
    have s11 := s11.more 0 (y := .both (.val v0) (.one (Lay.sl (Lay.int .i64)) l)) ⟨s11.get 0 rfl, at_in h0 z11 (s11.get 0 rfl)⟩
    refine flowC mixed (s11.keep (sc 0 rfl (sc 3 rfl (sc 4 rfl sn)))) (by kernel_rfl) (by kernel_rfl) (cc rfl (p_move g0 (od rfl id))
        (cc rfl (p_len ln_22 g0 (od2 rfl id))
        (cc rfl (p_move g0 (oc _)) cn))) fun a12 w12 b12 s12 => ?_
    have z12 := z11.below b12
    have hT := hT.below b12
    have hW := hW.below b12
    have s12 := s12.more 22 (y := .val v0) (s12.get 22 rfl).1
    refine wp_block ?_
    refine wp_count l.length 24 (fun i a wr => ∃ t kv U, TabAt wr w4.heap.size gT gM t kv ∧ TInv t gr l i ∧ LenB t i ∧ WAt wr w4.heap.size gA (TabB gT gM t kv) U (wantL l i) ∧ OnlyB (fun _ => False) w wr ∧ StE False 111 [(3, true, .val (ptrV gT)), (4, true, .val (ptrV gA)), (22, true, .val v0), (23, true, .int .i64 (l.length : Int)), (24, true, .int .i64 (i : Int))] noF a wr) (fun _ _ _ ⟨_, _, _, _, _, _, _, _, h⟩ => h.get 24 rfl) ⟨_, _, _, hT, tinv_T1 gr l, lenB_T1 gr, hW, z12, s12.to _ ⟨rfl, rfl, rfl, rfl, rfl, True.intro⟩⟩ fun i a13 w13 hi13 hI => ?_
    obtain ⟨t, kv, U, hT, hK, hL, hW, z13, s13⟩ := hI
    refine wp_seq ?_
    refine flowC mixed (s13.keep (sc 3 rfl (sc 4 rfl (sc 22 rfl (sc 23 rfl (sc 24 rfl sn)))))) (by kernel_rfl) (by kernel_rfl) (cc rfl (p_bin g0 (od rfl id) (od rfl id) b_lss_3) cn) fun a14 w14 b14 s14 => ?_
    have z14 := z13.below b14
    have hT := hT.below b14
    have hW := hW.below b14
    refine wp_seq ?_
    refine s14.cond 25 rfl (fun h25 => ?_) (fun h25 => ?_)
    · -- true
      have hlt : i < l.length := by simpa using h25
      obtain ⟨x, ex⟩ : ∃ x, l[i]? = some x := ⟨_, List.getElem?_eq_getElem hlt⟩
      obtain ⟨n, en⟩ : ∃ n, n = (i : Int) + 2 := ⟨_, rfl⟩
      have hname := (name2 (i := i) (by omega)).trans en.symm
      obtain ⟨k, ek⟩ : ∃ k, k = (x / 2 % 4).toNat := ⟨_, rfl⟩
      have hk4 : k < 4 := by omega
      have hko : ((k : Nat) : Int) = x / 2 % 4 := by omega
      have hcore := core_of x
      rw [← ek] at hcore
      refine wp_skip ?_
      refine wp_seq ?_
      refine wp_block ?_
      refine wp_seq ?_
      have s14 := s14.more 22 (y := .both (.val v0) (.one (Lay.sl (Lay.int .i64)) l)) ⟨s14.get 22 rfl, at_in h0 z14 (s14.get 22 rfl)⟩
      refine flowC mixed (s14.keep (sc 3 rfl (sc 4 rfl (sc 22 rfl (sc 23 rfl (sc 24 rfl (sc 25 rfl sn))))))) (by kernel_rfl) (by kernel_rfl) (cc rfl (p_move g0 (od rfl id))
          (cc rfl (p_index ix_22 ex g0 (od2 rfl id) (od rfl id))
          (cc rfl (p_loadI ld_3 g0 (od rfl id))
          (cc rfl (p_assign g0 (od rfl id))
          (cc rfl (p_assign g0 (od rfl id)) cn))))) fun a15 w15 b15 s15 => ?_
      have z15 := z14.below b15
      have hT := hT.below b15
      have hW := hW.below b15
      have s15 := s15.more 22 (y := .val v0) (s15.get 22 rfl).1
      refine wp_seq ?_
      refine wp_region_lit ?_
      refine with_st (s15.keep (sc 3 rfl (sc 4 rfl (sc 5 rfl (sc 6 rfl (sc 22 rfl (sc 23 rfl (sc 24 rfl sn)))))))) fun s15 => ?_
      refine chainK 4 (cc rfl (p_move g0 (od rfl id))
          (cc rfl (p_bin g0 (od rfl id) (oc _) b_add_3)
          (cc rfl (p_cvE hname g0 (od rfl id) cv_3_28)
          (cc rfl (p_runC (od rfl id) bd_48b (fun s h => by simp [Op.operands, h]) g0) cn)))) (by kernel_rfl) s15 fun a16 w16 b16 s16 => ?_
      have z16 := z15.below b16
      have hT := hT.below b16
      have hW := hW.below b16
      show wpList _ _ _ (_ :: _) _ _
      refine alloc_on (u := 48) (z := toC ⟨n, 2, 1, [], none⟩ (.slice none 0 0)) s16 (by simp [Region.wanted]) rfl (by decide) (bx_48 _ _ _ (s16.get 32 rfl)) (vv 3 rfl (vv 4 rfl (vv 22 rfl (vv 23 rfl (vv 24 rfl (vv 5 rfl (vv 6 rfl vn))))))) fun g2 a17 w17 hBg2 hg2 b17 s17 => ?_
      have hng2 : (t : Tab).ob g2 = none := no_at hT hg2
      have hg2 := Nat.le_trans (Nat.le_of_lt (Nat.lt_of_le_of_lt hT.bT hT.tb.lt)) hg2
      have hT := hT.below b17
      have hW := hW.below b17
      have z17 := z16.below b17
      have hO := objAt0 (B := w4.heap.size) (o := ⟨n, 2, 1, [], none⟩) rfl rfl hBg2 rfl
      refine chainK 1 (cc rfl (p_assign g0 (od rfl id)) cn) (by kernel_rfl) s17 fun a18 w18 b18 s18 => ?_
      have z18 := z17.below b18
      have hT := hT.below b18
      have hW := hW.below b18
      have hBg2 := hBg2.below b18 hBg2.lt
      have hO := hO.below b18
      refine wpList_done ?_
      refine wp_seq ?_
      refine wp_seq ?_
      refine flowC mixed (s18.keep (sc 3 rfl (sc 4 rfl (sc 5 rfl (sc 6 rfl (sc 7 rfl (sc 22 rfl (sc 23 rfl (sc 24 rfl (sc 33 rfl sn)))))))))) (by kernel_rfl) (by kernel_rfl) (cc rfl (p_move g0 (od rfl id))
          (cc rfl (p_bin g0 (od rfl id) (oc _) b_and_3)
          (cc rfl (p_bin g0 (od rfl id) (oc _) b_eql_3) cn))) fun a19 w19 b19 s19 => ?_
      have z19 := z18.below b19
      have hT := hT.below b19
      have hW := hW.below b19
      have hBg2 := hBg2.below b19 hBg2.lt
      have hO := hO.below b19
      refine s19.cond 36 rfl (fun h36 => ?_) (fun h36 => ?_)
      · -- true
        have hodd : x % 2 = 1 := by rw [odd_of] at h36; simpa using h36
        refine wp_seq ?_
        refine wp_region_lit ?_
        refine with_st (s19.keep (sc 3 rfl (sc 4 rfl (sc 6 rfl (sc 7 rfl (sc 22 rfl (sc 23 rfl (sc 24 rfl sn)))))))) fun s19 => ?_
        refine chainK 6 (cc rfl (p_move g0 (od rfl id))
            (cc rfl (p_move g0 (od rfl id))
            (cc rfl (p_move g0 (od rfl id))
            (cc rfl (p_bin g0 (od rfl id) (oc _) b_shr_3)
            (cc rfl (p_binE hcore g0 (od rfl id) (oc _) b_and_3)
            (cc rfl (p_run1 (od rfl id) bd_66 (fun s h => by simp [Op.operands, h]) g0) cn)))))) (by kernel_rfl) s19 fun a20 w20 b20 s20 => ?_
        have z20 := z19.below b20
        have hT := hT.below b20
        have hW := hW.below b20
        have hBg2 := hBg2.below b20 hBg2.lt
        have hO := hO.below b20
        show wpList _ _ _ (_ :: _) _ _
        refine alloc_on (u := 66) (z := thC (k : Int)) s20 (by simp [Region.wanted]) rfl (by decide) (bx_66 _ _ _ (s20.get 42 rfl)) (vv 3 rfl (vv 4 rfl (vv 22 rfl (vv 23 rfl (vv 24 rfl (vv 6 rfl (vv 7 rfl (vv 37 rfl (vv 38 rfl vn))))))))) fun gx a21 w21 hX hgx b21 s21 => ?_
        have hgx := Nat.le_trans (Nat.le_of_lt (Nat.lt_of_le_of_lt hT.bT hT.tb.lt)) hgx
        have hT := hT.below b21
        have hW := hW.below b21
        have hBg2 := hBg2.below b21 hBg2.lt
        have hO := hO.below b21
        have z21 := z20.below b21
        refine chainK 2 (cc rfl (p_nilV g0 (od rfl id))
            (cc rfl (p_faV0 fa_48_2 g0 (od rfl id)) cn)) (by kernel_rfl) s21 fun a22 w22 b22 s22 => ?_
        have z22 := z21.below b22
        have hT := hT.below b22
        have hW := hW.below b22
        have hBg2 := hBg2.below b22 hBg2.lt
        have hO := hO.below b22
        have hX := hX.below b22 hX.lt
        show wpList _ _ _ (_ :: _) _ _
        refine cells_on (vs := [.int .i64 3]) s22 rfl rfl rfl (s22.get 45 rfl) rfl rfl hBg2 (by simp) sz_3 (fun u hu => by rw [List.mem_singleton.1 hu]; rfl) (vv 3 rfl (vv 4 rfl (vv 22 rfl (vv 23 rfl (vv 24 rfl (vv 6 rfl (vv 7 rfl (vv 38 rfl (vv 43 rfl vn))))))))) fun a23 w23 hB3 gS s23 => ?_
        have hT := hT.grown gS (fun j hj e => tab_no hT hBg2 hng2 (by injection e with e; rw [e]; exact hj))
        have hW := hW.only (S' := fun j => some g2 = some j) (S2 := TabB gT gM t kv) ((OnlyB.refl _ _).grown gS (fun _ _ e => e)) (fun e => blk_ne hBg2 hW.arr (by decide) (by injection e)) (fun k hk g hg e => row_ne hBg2 (hW.row k hk) (by decide) (by rw [hg, ← e])) hW.out
        have hX := hX.grown gS (fun e => blk_ne hX hBg2 (by decide) (by injection e))
        have hBg2 : Blk w23 g2 48 (toC ⟨n, 3, 1, [], none⟩ (.slice none 0 0)) := hB3
        have z23 := z22.grown gS (fun x hx e => absurd (Nat.le_trans hbase hg2) (Nat.not_le.2 (by injection e with e; rw [e]; exact hx)))
        refine chainK 2 (cc rfl (p_nilV g0 (od rfl id))
            (cc rfl (p_faV0 fa_48_13 g0 (od rfl id)) cn)) (by kernel_rfl) s23 fun a24 w24 b24 s24 => ?_
        have z24 := z23.below b24
        have hT := hT.below b24
        have hW := hW.below b24
        have hBg2 := hBg2.below b24 hBg2.lt
        have hX := hX.below b24 hX.lt
        show wpList _ _ _ (_ :: _) _ _
        refine cells_on (vs := [ptrV gx]) s24 rfl rfl rfl (s24.get 47 rfl) (s24.get 43 rfl) rfl hBg2 (by simp) sz_42 (fun u hu => by rw [List.mem_singleton.1 hu]; rfl) (vv 3 rfl (vv 4 rfl (vv 22 rfl (vv 23 rfl (vv 24 rfl (vv 6 rfl (vv 7 rfl vn))))))) fun a25 w25 hB3 gS s25 => ?_
        have hT := hT.grown gS (fun j hj e => tab_no hT hBg2 hng2 (by injection e with e; rw [e]; exact hj))
        have hW := hW.only (S' := fun j => some g2 = some j) (S2 := TabB gT gM t kv) ((OnlyB.refl _ _).grown gS (fun _ _ e => e)) (fun e => blk_ne hBg2 hW.arr (by decide) (by injection e)) (fun k hk g hg e => row_ne hBg2 (hW.row k hk) (by decide) (by rw [hg, ← e])) hW.out
        have hX := hX.grown gS (fun e => blk_ne hX hBg2 (by decide) (by injection e))
        have hBg2 : Blk w25 g2 48 (toC ⟨n, 3, 1, [], some (gx, (k : Int))⟩ (.slice none 0 0)) := hB3
        have z25 := z24.grown gS (fun x hx e => absurd (Nat.le_trans hbase hg2) (Nat.not_le.2 (by injection e with e; rw [e]; exact hx)))
        have hO : ObjAt w25 w4.heap.size g2 ⟨n, 3, 1, [], some (gx, (k : Int))⟩ (.slice none 0 0) := ⟨hBg2, World.ownsRow_nil _ _ _ _, fun y on h => by injection h with h; injection h with h1 h2; subst h1 h2; exact ⟨hX, hgx⟩⟩
        refine wpList_done ?_
        have hrow := hW.row k hk4
        have hBs := Nat.le_of_lt (Nat.lt_of_le_of_lt hT.bT hT.tb.lt)
        have hwl := wantL_len l i k
        have hws := wantL_succ ex k
        rw [if_pos (by rw [hodd, hko]; simp), ← en] at hws
        obtain ⟨gz, hgz, hn1, hn2, hn3⟩ : ∃ gz, gz < _ ∧ gA ≠ gz ∧ g2 ≠ gz ∧ ∀ x, (U k).ownBlock = some x → x = gz := away2 hT.mp hrow hW.arr hO.blk
        have s25 := s25.vals (F' := AtB gz) (fok_atO hgz) (vv 3 rfl (vv 4 rfl (vv 6 rfl (vv 7 rfl (vv 22 rfl (vv 23 rfl (vv 24 rfl vn)))))))
        have s25 := s25.more 4 (y := .bp gA 54 #[U 0, U 1, U 2, U 3] 0) ⟨s25.get 4 rfl, hW.arr, fun _ h => hn1 h⟩
        have s25 := s25.more 7 (y := .bp g2 48 (toC ⟨n, 3, 1, [], some (gx, (k : Int))⟩ (.slice none 0 0)) 0) ⟨s25.get 7 rfl, hO.blk, fun _ h => hn2 h⟩
        have s25 := s25.keep (sc 3 rfl (sc 4 rfl (sc 6 rfl (sc 7 rfl (sc 22 rfl (sc 23 rfl (sc 24 rfl sn)))))))
        refine flowEV 14 13 gz 61 .any (fun wr => Below w25.heap.size w25 wr) (fun v wr => w25.grownBy wr (U k).ownBlock ∧ wr.ownsRow w4.heap.size 28 1 v ((wantL l i k).length + 1) ((wantL l i k).flatMap kE ++ kE n) ∧ (v.ownBlock = (U k).ownBlock ∨ ∀ x, v.ownBlock = some x → w25.heap.size ≤ x)) mixed s25 (fun _ => rfl) (Below.refl _ _) (fun h hb => h.trans (hb.mono h.size)) (fun h hb => ⟨only_trans h.1 (only_of_below hb _), own_below h.2.1 hb, h.2.2⟩) (by kernel_rfl) rfl (cc rfl (p_move g0 (od rfl id))
            (cc rfl (p_bin g0 (od rfl id) (oc _) b_shr_3)
            (cc rfl (p_binE hcore g0 (od rfl id) (oc _) b_and_3)
            (cc rfl (p_move g0 (od rfl id))
            (cc rfl (p_bin g0 (od rfl id) (oc _) b_shr_3)
            (cc rfl (p_binE hcore g0 (od rfl id) (oc _) b_and_3)
            (cc rfl (p_idxA hk4 g0 (od rfl id) (od rfl id))
            (cc rfl (p_ldB ld_29 (arr_at hk4) g0 (od rfl id))
            (cc rfl (p_move g0 (od rfl id))
            (cc rfl (p_nilB g0 (od rfl id))
            (cc rfl (p_faB fa_48_1 g0 (od rfl id))
            (cc rfl (p_ldB ld_28 rfl g0 (od rfl id))
            (cc rfl (p_lits1 (E := 28) (fun ev w h1 => by go_simp) g0 (od rfl id)) cn))))))))))))) (by kernel_rfl) cn (by kernel_rfl) (by kernel_rfl) (fun ac wc oc hoc hsz hf hknow hBel R hR => ?_) rfl fun a26 w26 _ hG s26 => ?_
        · obtain rfl := Option.some.inj hoc
          have q55 : ac.tmps.getD 55 undef = U k := (hknow 55 (List.contains_iff_mem.1 (by kernel_rfl)) _ rfl).1 rfl
          obtain ⟨gl, q60, hgl, _⟩ := ((hknow 60 (List.contains_iff_mem.1 (by kernel_rfl)) _ rfl).1 rfl).1
          refine app_call (cs := kE n) rfl rfl Try.underlying29 hi0 hz0 hz1 hz2 rfl (by decide) (own_below hrow hBel) q55 q60 hgl rfl (fun u hu => by rw [List.mem_singleton.1 hu]; rfl) (by unfold maxLen; omega) (by omega) (Nat.le_trans hBs hBel.size) fun v' w' h1 h2 h3 => ?_
          refine hR v' w' (grown_to h2 fun x hx => hn3 x hx) (fun u => u.elim) ⟨only_trans (only_of_below hBel _) h2, h1, h3.imp id fun e x hx => by rw [e] at hx; injection hx with hx; rw [← hx]; exact hBel.size⟩ True.intro
        obtain ⟨v2, hv2⟩ : ∃ v, v = a26.tmps.getD 61 undef := ⟨_, rfl⟩
        have s26 := s26.more 61 (y := .val v2) hv2.symm
        rw [← hv2] at hG
        obtain ⟨gG, ow2, eo⟩ := hG
        have s26 := s26.more 4 (y := .val (ptrV gA)) (s26.get 4 rfl).1
        have s26 := s26.more 7 (y := .val (ptrV g2)) (s26.get 7 rfl).1
        have s26 := s26.vals (F' := noF) (fok_no _ w26) (vv 3 rfl (vv 4 rfl (vv 7 rfl (vv 22 rfl (vv 23 rfl (vv 24 rfl (vv 50 rfl (vv 61 rfl vn))))))))
        have ow2 : w26.ownsRow w4.heap.size 28 1 v2 (wantL l (i + 1) k).length ((wantL l (i + 1) k).flatMap kE) := by rw [hws, List.length_append, List.flatMap_append]; exact ow2
        have hO := hO.grown gG (Ne.symm (row_ne hO.blk hrow (by decide))) (.inl rfl) (fun x on hx => Ne.symm (row_ne (hO.th x on hx).1 hrow (by decide)))
        have hSz : ∀ j, TabB gT gM t kv j → j < _ := fun j hj => (hT.lt hj).2
        have hbU : ∀ x, (U k).ownBlock = some x → _ ≤ x := fun x hx => own_base hrow hx
        have hT := hT.grown gG (fun j hj => hW.out k hk4 j hj)
        have hA := hW.arr.grown gG (Ne.symm (row_ne hW.arr hrow (by decide)))
        have z26 := z25.grown gG (fun x hx e => absurd (Nat.le_trans hbase (hbU x e)) (Nat.not_le.2 hx))
        show wpList _ _ _ (_ :: _ :: _) _ _
        refine chainK 1 (cc rfl (p_idxAV hk4 g0 (od rfl id) (od rfl id)) cn) (by kernel_rfl) s26 fun a27 w27 b27 s27 => ?_
        have z27 := z26.below b27
        have hT := hT.below b27
        have hO := hO.below b27
        have hA := hA.below b27 hA.lt
        have ow2 := own_below ow2 b27
        have gG := only_trans gG (only_of_below b27 _)
        show wpList _ _ _ (_ :: _) _ _
        refine cells_on (vs := [v2]) s27 rfl rfl rfl (s27.get 62 rfl) (s27.get 61 rfl) (slice_one ow2).2 hA (by simp; omega) sz_29 (fun u hu => by rw [List.mem_singleton.1 hu]; exact (slice_one ow2).1) (vv 3 rfl (vv 4 rfl (vv 7 rfl (vv 22 rfl (vv 23 rfl (vv 24 rfl vn)))))) fun a28 w28 hA2 gS s28 => ?_
        have hW := hW.app (W2 := wantL l (i + 1)) hk4 hSz gG ow2 eo (fun h hh => by rw [wantL_succ ex h, if_neg (by rw [← hko]; simp; omega), List.append_nil]) hA2 gS
        have hO := hO.grown gS (fun e => blk_ne hO.blk hA (by decide) (by injection e)) (.inl rfl) (fun x on hx e => blk_ne (hO.th x on hx).1 hA (by decide) (by injection e))
        have hT := hT.grown gS (fun j hj e => tab_54 hT hA (by injection e with e; rw [e]; exact hj))
        have z28 := z27.grown gS (fun x hx e => absurd (Nat.le_trans hbase hW.base) (Nat.not_le.2 (by injection e with e; rw [e]; exact hx)))
        refine wpList_done ?_
        refine wp_seq ?_
        refine wp_region_lit ?_
        refine with_st (s28.keep (sc 3 rfl (sc 4 rfl (sc 7 rfl (sc 22 rfl (sc 23 rfl (sc 24 rfl sn))))))) fun s28 => ?_
        refine chainK 2 (cc rfl (p_move g0 (od rfl id))
            (cc rfl (p_move g0 (od rfl id)) cn)) (by kernel_rfl) s28 fun a29 w29 b29 s29 => ?_
        have z29 := z28.below b29
        have hT := hT.below b29
        have hW := hW.below b29
        have hO := hO.below b29
        show wpList _ _ _ (_ :: _) _ _
        have hkid : KidIs x i ⟨n, 3, 1, [], some (gx, (k : Int))⟩ := ⟨en, rfl, rfl, .inl ⟨hodd, rfl, gx, by rw [hko]⟩⟩
        have hA := hK.add ex hkid hng2
        refine callO [.tmp 63, .tmp 64] s29 (by simp [Region.wanted]) (fun _ _ => by kernel_rfl) rfl (by decide) (show Calls Try.prog 15 #[a29.tmps.getD 63 undef, a29.tmps.getD 64 undef] w29 _ from by rw [show a29.tmps.getD 63 undef = ptrV gT from s29.get 63 rfl, show a29.tmps.getD 64 undef = ptrV g2 from s29.get 64 rfl]; exact cAdd hT hO hg2 hng2 hK.ok (fun x q hq => Nat.le_trans (hL x q hq) (by omega))) (vv 3 rfl (vv 4 rfl (vv 22 rfl (vv 23 rfl (vv 24 rfl vn))))) fun v30 a30 w30 hR30 s30 => ?_
        obtain ⟨rfl, _, hyes⟩ := hR30
        obtain ⟨kv3, hT2, zA, hB2⟩ := hyes hA.1
        have s30 := s30.more 65 (y := .bool true) (by rw [show _ = _ from s30.get 65 rfl, hA.1]; rfl)
        have hW := hW.only (S2 := TabB gT gM _ kv3) zA (tab_54 hT hW.arr) (fun k hk g hg hS => hW.out k hk g hS hg) (fun k hk => apart_add3 (hW.row k hk) hO (hW.out k hk) hB2)
        have z30 := z29.trans zA (fun x hx hS => absurd (Nat.le_trans hbase (hT.lt hS).1) (Nat.not_le.2 hx))
        have hT := hT2
        have hK := hA.2
        have hL := hL.add (g := g2) (o := ⟨n, 3, 1, [], some (gx, (k : Int))⟩) (Nat.zero_le _)
        refine chainK 1 (cc rfl (p_not g0 (od rfl id)) cn) (by kernel_rfl) s30 fun a31 w31 b31 s31 => ?_
        have z31 := z30.below b31
        have hT := hT.below b31
        have hW := hW.below b31
        refine wpList_done ?_
        refine s31.cond 66 rfl (fun h => absurd h (by simp)) fun _ => ?_
        refine wp_skip ?_
        refine flowT (s31.keep (sc 3 rfl (sc 4 rfl (sc 22 rfl (sc 23 rfl (sc 24 rfl (sc 65 rfl (sc 66 rfl sn)))))))) (by kernel_rfl) (cc rfl (p_bin g0 (od rfl id) (oc _) (inc_3 (by omega)))
            (cc rfl (p_move g0 (od rfl id)) cn)) fun a32 w32 b32 s32 => ?_
        have z32 := z31.below b32
        have hT := hT.below b32
        have hW := hW.below b32
        exact ⟨hlt, _, _, _, hT, hK, hL, hW, z32, s32.to _ ⟨rfl, rfl, rfl, rfl, rfl, True.intro⟩⟩
      · -- false
        have hodd : x % 2 ≠ 1 := by rw [odd_of] at h36; simpa using h36
        refine wp_skip ?_
        refine wp_seq ?_
        refine wp_region_lit ?_
        refine with_st (s19.keep (sc 3 rfl (sc 4 rfl (sc 7 rfl (sc 22 rfl (sc 23 rfl (sc 24 rfl sn))))))) fun s19 => ?_
        refine chainK 2 (cc rfl (p_move g0 (od rfl id))
            (cc rfl (p_move g0 (od rfl id)) cn)) (by kernel_rfl) s19 fun a33 w33 b33 s33 => ?_
        have z33 := z19.below b33
        have hT := hT.below b33
        have hW := hW.below b33
        have hBg2 := hBg2.below b33 hBg2.lt
        have hO := hO.below b33
        show wpList _ _ _ (_ :: _) _ _
        have hw0 : ∀ h, wantL l (i + 1) h = wantL l i h := fun h => by rw [wantL_succ ex h, if_neg (by simp [hodd]), List.append_nil]
        have hW := hW.as (fun h => (hw0 h).symm)
        have hkid : KidIs x i ⟨n, 2, 1, [], none⟩ := ⟨en, rfl, rfl, .inr ⟨hodd, rfl, rfl⟩⟩
        have hA := hK.add ex hkid hng2
        refine callO [.tmp 63, .tmp 64] s33 (by simp [Region.wanted]) (fun _ _ => by kernel_rfl) rfl (by decide) (show Calls Try.prog 15 #[a33.tmps.getD 63 undef, a33.tmps.getD 64 undef] w33 _ from by rw [show a33.tmps.getD 63 undef = ptrV gT from s33.get 63 rfl, show a33.tmps.getD 64 undef = ptrV g2 from s33.get 64 rfl]; exact cAdd hT hO hg2 hng2 hK.ok (fun x q hq => Nat.le_trans (hL x q hq) (by omega))) (vv 3 rfl (vv 4 rfl (vv 22 rfl (vv 23 rfl (vv 24 rfl vn))))) fun v34 a34 w34 hR34 s34 => ?_
        obtain ⟨rfl, _, hyes⟩ := hR34
        obtain ⟨kv3, hT2, zA, hB2⟩ := hyes hA.1
        have s34 := s34.more 65 (y := .bool true) (by rw [show _ = _ from s34.get 65 rfl, hA.1]; rfl)
        have hW := hW.only (S2 := TabB gT gM _ kv3) zA (tab_54 hT hW.arr) (fun k hk g hg hS => hW.out k hk g hS hg) (fun k hk => apart_add3 (hW.row k hk) hO (hW.out k hk) hB2)
        have z34 := z33.trans zA (fun x hx hS => absurd (Nat.le_trans hbase (hT.lt hS).1) (Nat.not_le.2 hx))
        have hT := hT2
        have hK := hA.2
        have hL := hL.add (g := g2) (o := ⟨n, 2, 1, [], none⟩) (Nat.zero_le _)
        refine chainK 1 (cc rfl (p_not g0 (od rfl id)) cn) (by kernel_rfl) s34 fun a35 w35 b35 s35 => ?_
        have z35 := z34.below b35
        have hT := hT.below b35
        have hW := hW.below b35
        refine wpList_done ?_
        refine s35.cond 66 rfl (fun h => absurd h (by simp)) fun _ => ?_
        refine wp_skip ?_
        refine flowT (s35.keep (sc 3 rfl (sc 4 rfl (sc 22 rfl (sc 23 rfl (sc 24 rfl (sc 65 rfl (sc 66 rfl sn)))))))) (by kernel_rfl) (cc rfl (p_bin g0 (od rfl id) (oc _) (inc_3 (by omega)))
            (cc rfl (p_move g0 (od rfl id)) cn)) fun a36 w36 b36 s36 => ?_
        have z36 := z35.below b36
        have hT := hT.below b36
        have hW := hW.below b36
        exact ⟨hlt, _, _, _, hT, hK, hL, hW, z36, s36.to _ ⟨rfl, rfl, rfl, rfl, rfl, True.intro⟩⟩
    · -- false
      obtain rfl : i = l.length := by have := of_decide_eq_false h25; (try dsimp only at this); omega
      refine wp_exit ?_
      refine wp_seq ?_
      refine wp_seq ?_
      refine flowC mixed (s14.keep (sc 3 rfl (sc 4 rfl (sc 22 rfl (sc 23 rfl (sc 24 rfl sn)))))) (by kernel_rfl) (by kernel_rfl) (cc rfl (p_move g0 (oc _)) cn) fun a37 w37 b37 s37 => ?_
      have z37 := z14.below b37
      have hT := hT.below b37
      have hW := hW.below b37
      refine wp_block ?_
      obtain ⟨gs, hgs, hgl, hgk⟩ := hK.pops
      refine wp_count 4 68 (fun k a wr => TabAt wr w4.heap.size gT gM t kv ∧ WAt wr w4.heap.size gA (TabB gT gM t kv) U (wantL l l.length) ∧ OnlyB (fun _ => False) w wr ∧ StE False 111 [(3, true, .val (ptrV gT)), (4, true, .val (ptrV gA)), (68, true, .int .i64 (k : Int))] noF a wr) (fun _ _ _ ⟨_, _, _, h⟩ => h.get 68 rfl) ⟨hT, hW, z37, s37.to _ ⟨rfl, rfl, rfl, True.intro⟩⟩ fun k a38 w38 hk38 hI => ?_
      obtain ⟨hT, hW, z38, s38⟩ := hI
      refine wp_seq ?_
      refine flowC mixed (s38.keep (sc 3 rfl (sc 4 rfl (sc 68 rfl sn)))) (by kernel_rfl) (by kernel_rfl) (cc rfl (p_bin g0 (od rfl id) (oc _) b_lss_3) cn) fun a39 w39 b39 s39 => ?_
      have z39 := z38.below b39
      have hT := hT.below b39
      have hW := hW.below b39
      refine wp_seq ?_
      refine s39.cond 69 rfl (fun h69 => ?_) (fun h69 => ?_)
      · -- true
        have hk4 : k < 4 := by have := of_decide_eq_true h69; (try dsimp only at this); omega
        have hwant := thr_want (k := k) hgl hgk
        refine wp_skip ?_
        refine wp_seq ?_
        refine wp_block ?_
        refine wp_seq ?_
        refine flowC mixed (s39.keep (sc 3 rfl (sc 4 rfl (sc 68 rfl (sc 69 rfl sn))))) (by kernel_rfl) (by kernel_rfl) (cc rfl (p_move g0 (od rfl id))
            (cc rfl (p_assign g0 (od rfl id)) cn)) fun a40 w40 b40 s40 => ?_
        have z40 := z39.below b40
        have hT := hT.below b40
        have hW := hW.below b40
        refine wp_seq ?_
        refine wp_region_lit ?_
        refine with_st (s40.keep (sc 3 rfl (sc 4 rfl (sc 8 rfl (sc 68 rfl sn))))) fun s40 => ?_
        refine chainK 2 (cc rfl (p_move g0 (od rfl id))
            (cc rfl (p_move g0 (od rfl id)) cn)) (by kernel_rfl) s40 fun a41 w41 b41 s41 => ?_
        have z41 := z40.below b41
        have hT := hT.below b41
        have hW := hW.below b41
        show wpList _ _ _ (_ :: _) _ _
        refine callO [.tmp 71, .const (.int .u64 1), .tmp 72] s41 (by simp [Region.wanted]) (fun _ _ => by kernel_rfl) rfl (by decide) (show Calls Try.prog 19 #[a41.tmps.getD 71 undef, .int .u64 1, a41.tmps.getD 72 undef] w41 _ from by rw [show a41.tmps.getD 71 undef = ptrV gT from s41.get 71 rfl, show a41.tmps.getD 72 undef = .int .i64 (k : Int) from s41.get 72 rfl]; exact cThr hT hK.root hK.ro rfl hgs (fun g hg => thr_kid hgl hgk hg) (by rw [nmL_len]; omega)) (vv 3 rfl (vv 4 rfl (vv 8 rfl (vv 68 rfl vn)))) fun v42 a42 w42 hR42 s42 => ?_
        obtain ⟨h9, b42⟩ := hR42
        obtain ⟨A9, c9, rfl⟩ := own_slice h9
        obtain ⟨B9, h9⟩ : ∃ b, w42.ownsRow b 27 1 (.slice A9 (gs.filter (isT t (k : Int))).length c9) (gs.filter (isT t (k : Int))).length ((gs.filter (isT t (k : Int))).flatMap pE) := ⟨_, h9⟩
        have hT := hT.below b42
        have hW := hW.below b42
        have z42 := z41.below b42
        have hlen := congrArg List.length hwant
        rw [List.length_map] at hlen
        refine chainK 1 (cc rfl (p_assign g0 (od rfl id)) cn) (by kernel_rfl) s42 fun a43 w43 b43 s43 => ?_
        have z43 := z42.below b43
        have hT := hT.below b43
        have hW := hW.below b43
        have h9 := own_below h9 b43
        refine wpList_done ?_
        refine wp_seq ?_
        refine wp_seq ?_
        have s43 := s43.more 4 (y := .arrR gA #[U 0, U 1, U 2, U 3] k 0 (U k) (wantL l l.length k)) (at_arr hW hk4 (s43.get 4 rfl))
        refine flowC mixed (s43.keep (sc 3 rfl (sc 4 rfl (sc 8 rfl (sc 9 rfl (sc 68 rfl (sc 73 rfl sn))))))) (by kernel_rfl) (by kernel_rfl) (cc rfl (p_move g0 (od rfl id))
            (cc rfl (p_lenV ln_49 g0 (od rfl id))
            (cc rfl (p_move g0 (od rfl id))
            (cc rfl (p_idxR hk4 g0 (od rfl id) (od rfl id))
            (cc rfl (p_ldR g0 (od rfl id))
            (cc rfl (p_len ln_29 g0 (od2 rfl id))
            (cc rfl (p_bin g0 (od rfl id) (od rfl id) b_neq_3) cn))))))) fun a44 w44 b44 s44 => ?_
        have z44 := z43.below b44
        have hT := hT.below b44
        have hW := hW.below b44
        have h9 := own_below h9 b44
        have s44 := s44.more 4 (y := .val (ptrV gA)) (s44.get 4 rfl).1
        refine s44.cond 80 rfl (fun h => absurd h (by rw [hlen]; simp)) fun _ => ?_
        refine wp_skip ?_
        refine wp_seq ?_
        refine flowC mixed (s44.keep (sc 3 rfl (sc 4 rfl (sc 8 rfl (sc 9 rfl (sc 68 rfl (sc 73 rfl (sc 74 rfl (sc 75 rfl (sc 76 rfl (sc 77 rfl (sc 78 rfl (sc 79 rfl (sc 80 rfl sn)))))))))))))) (by kernel_rfl) (by kernel_rfl) (cc rfl (p_move g0 (od rfl id))
            (cc rfl (p_lenV ln_49 g0 (od rfl id))
            (cc rfl (p_move g0 (oc _)) cn))) fun a45 w45 b45 s45 => ?_
        have z45 := z44.below b45
        have hT := hT.below b45
        have hW := hW.below b45
        have h9 := own_below h9 b45
        refine wp_block ?_
        refine wp_count (gs.filter (isT t (k : Int))).length 83 (fun m a wr => TabAt wr w4.heap.size gT gM t kv ∧ WAt wr w4.heap.size gA (TabB gT gM t kv) U (wantL l l.length) ∧ wr.ownsRow B9 27 1 (.slice A9 (gs.filter (isT t (k : Int))).length c9) (gs.filter (isT t (k : Int))).length ((gs.filter (isT t (k : Int))).flatMap pE) ∧ OnlyB (fun _ => False) w wr ∧ StE False 111 [(3, true, .val (ptrV gT)), (4, true, .val (ptrV gA)), (8, true, .int .i64 (k : Int)), (68, true, .int .i64 (k : Int)), (81, true, .val (.slice A9 (gs.filter (isT t (k : Int))).length c9)), (82, true, .int .i64 ((gs.filter (isT t (k : Int))).length : Int)), (83, true, .int .i64 (m : Int))] noF a wr) (fun _ _ _ ⟨_, _, _, _, h⟩ => h.get 83 rfl) ⟨hT, hW, h9, z45, s45.to _ ⟨rfl, rfl, rfl, rfl, rfl, rfl, rfl, True.intro⟩⟩ fun m a46 w46 hm46 hI => ?_
        obtain ⟨hT, hW, h9, z46, s46⟩ := hI
        refine wp_seq ?_
        refine flowC mixed (s46.keep (sc 3 rfl (sc 4 rfl (sc 8 rfl (sc 68 rfl (sc 81 rfl (sc 82 rfl (sc 83 rfl sn)))))))) (by kernel_rfl) (by kernel_rfl) (cc rfl (p_bin g0 (od rfl id) (od rfl id) b_lss_3) cn) fun a47 w47 b47 s47 => ?_
        have z47 := z46.below b47
        have hT := hT.below b47
        have hW := hW.below b47
        have h9 := own_below h9 b47
        refine wp_seq ?_
        refine s47.cond 84 rfl (fun h84 => ?_) (fun h84 => ?_)
        · -- true
          have hml : m < (gs.filter (isT t (k : Int))).length := by have := of_decide_eq_true h84; (try dsimp only at this); omega
          obtain ⟨gk, hgm⟩ : ∃ x, (gs.filter (isT t (k : Int)))[m]? = some x := ⟨_, List.getElem?_eq_getElem hml⟩
          have hgf := List.length_filter_le (isT t (k : Int)) gs
          obtain ⟨o2, ho2, hnm⟩ := thr_at hgl hgk hgm hwant
          rcases h9.2 with ⟨_, h1⟩ | ⟨b, c2, cur, e, hBb, hbb, hnc, hcm, hcs, htake⟩
          · omega
          injection e with e1 e2 e3
          subst e1 e3
          have hbb : Blk _ b 27 cur := hbb
          have hob := hT.ob gk o2 ho2
          refine wp_skip ?_
          refine wp_seq ?_
          refine wp_block ?_
          refine wp_seq ?_
          have s47 := s47.more 81 (y := .rowO b (gs.filter (isT t (k : Int))).length c9 m gk cur (toC o2 (kv gk))) ⟨s47.get 81 rfl, hml, hbb, at_pE htake hgm, hob.blk, fun _ h => h, fun _ h => h⟩
          refine flowC mixed (s47.keep (sc 3 rfl (sc 4 rfl (sc 8 rfl (sc 68 rfl (sc 81 rfl (sc 82 rfl (sc 83 rfl (sc 84 rfl sn))))))))) (by kernel_rfl) (by kernel_rfl) (cc rfl (p_move g0 (od rfl id))
              (cc rfl (p_idxO g0 (od rfl id) (od rfl id))
              (cc rfl (p_ldO g0 (od rfl id))
              (cc rfl (p_assign g0 (od rfl id))
              (cc rfl (p_assign g0 (od rfl id)) cn))))) fun a48 w48 b48 s48 => ?_
          have z48 := z47.below b48
          have hT := hT.below b48
          have hW := hW.below b48
          have h9 := own_below h9 b48
          have s48 := s48.more 81 (y := .val (.slice (some ⟨b, 0, none⟩) (gs.filter (isT t (k : Int))).length c9)) (s48.get 81 rfl).1
          refine wp_seq ?_
          have s48 := s48.more 4 (y := .arrR gA #[U 0, U 1, U 2, U 3] k 0 (U k) (wantL l l.length k)) (at_arr hW hk4 (s48.get 4 rfl))
          refine flowC mixed (s48.keep (sc 3 rfl (sc 4 rfl (sc 8 rfl (sc 10 rfl (sc 11 rfl (sc 68 rfl (sc 81 rfl (sc 82 rfl (sc 83 rfl (sc 84 rfl (sc 85 rfl (sc 86 rfl (sc 87 rfl sn)))))))))))))) (by kernel_rfl) (by kernel_rfl) (cc rfl (p_move g0 (od rfl id))
              (cc rfl (p_nilB g0 (od rfl id))
              (cc rfl (p_faB fa_48_1 g0 (od rfl id))
              (cc rfl (p_ldB ld_28 rfl g0 (od rfl id))
              (cc rfl (p_move g0 (od rfl id))
              (cc rfl (p_idxR hk4 g0 (od rfl id) (od rfl id))
              (cc rfl (p_ldR g0 (od rfl id))
              (cc rfl (p_move g0 (od rfl id))
              (cc rfl (p_index ix_29 hnm g0 (od2 rfl id) (od rfl id))
              (cc rfl (p_loadI ld_28 g0 (od rfl id))
              (cc rfl (p_bin g0 (od rfl id) (od rfl id) b_neq_28) cn))))))))))) fun a49 w49 b49 s49 => ?_
          have z49 := z48.below b49
          have hT := hT.below b49
          have hW := hW.below b49
          have h9 := own_below h9 b49
          have s49 := s49.more 4 (y := .val (ptrV gA)) (s49.get 4 rfl).1
          refine s49.cond 98 rfl (fun h => absurd h (by simp)) fun _ => ?_
          refine wp_skip ?_
          refine flowT (s49.keep (sc 3 rfl (sc 4 rfl (sc 8 rfl (sc 10 rfl (sc 11 rfl (sc 68 rfl (sc 81 rfl (sc 82 rfl (sc 83 rfl (sc 84 rfl (sc 85 rfl (sc 86 rfl (sc 87 rfl (sc 88 rfl (sc 89 rfl (sc 90 rfl (sc 91 rfl (sc 92 rfl (sc 93 rfl (sc 94 rfl (sc 95 rfl (sc 96 rfl (sc 97 rfl (sc 98 rfl sn))))))))))))))))))))))))) (by kernel_rfl) (cc rfl (p_bin g0 (od rfl id) (oc _) (inc_3 (by omega)))
              (cc rfl (p_move g0 (od rfl id)) cn)) fun a50 w50 b50 s50 => ?_
          have z50 := z49.below b50
          have hT := hT.below b50
          have hW := hW.below b50
          have h9 := own_below h9 b50
          exact ⟨hml, hT, hW, h9, z50, s50.to _ ⟨rfl, rfl, rfl, rfl, rfl, rfl, rfl, True.intro⟩⟩
        · -- false
          obtain rfl : m = (gs.filter (isT t (k : Int))).length := by have := of_decide_eq_false h84; (try dsimp only at this); omega
          refine wp_exit ?_
          refine flowT (s47.keep (sc 3 rfl (sc 4 rfl (sc 8 rfl (sc 68 rfl (sc 81 rfl (sc 82 rfl (sc 83 rfl (sc 84 rfl sn))))))))) (by kernel_rfl) (cc rfl (p_bin g0 (od rfl id) (oc _) (inc_3 (by omega)))
              (cc rfl (p_move g0 (od rfl id)) cn)) fun a51 w51 b51 s51 => ?_
          have z51 := z47.below b51
          have hT := hT.below b51
          have hW := hW.below b51
          have h9 := own_below h9 b51
          exact ⟨hk4, hT, hW, z51, s51.to _ ⟨rfl, rfl, rfl, True.intro⟩⟩
      · -- false
        refine wp_exit ?_
        refine wp_seq ?_
        refine wp_region_lit ?_
        refine with_st (s39.keep (sc 3 rfl sn)) fun s39 => ?_
        refine chainK 1 (cc rfl (p_move g0 (od rfl id)) cn) (by kernel_rfl) s39 fun a52 w52 b52 s52 => ?_
        have z52 := z39.below b52
        have hT := hT.below b52
        have hW := hW.below b52
        show wpList _ _ _ (_ :: _) _ _
        refine callO [.tmp 101, .const (.int .u64 2), .const (.int .i64 0)] s52 (by simp [Region.wanted]) (fun _ _ => by kernel_rfl) rfl (by decide) (show Calls Try.prog 19 #[a52.tmps.getD 101 undef, .int .u64 2, .int .i64 0] w52 _ from by rw [show a52.tmps.getD 101 undef = ptrV gT from s52.get 101 rfl]; exact cThrN hT hK) (vv 3 rfl vn) fun v53 a53 w53 hR53 s53 => ?_
        obtain ⟨rfl, b53⟩ := hR53
        have hT := hT.below b53
        have hW := hW.below b53
        have z53 := z52.below b53
        refine chainK 3 (cc rfl (p_lenV ln_49 g0 (od rfl id))
            (cc rfl (p_bin g0 (od rfl id) (oc _) b_eql_3)
            (cc rfl (p_move g0 (od rfl id)) cn))) (by kernel_rfl) s53 fun a54 w54 b54 s54 => ?_
        have z54 := z53.below b54
        have hT := hT.below b54
        have hW := hW.below b54
        have s54 := s54.more 105 (y := .bool true) (s54.get 105 rfl)
        refine chainK 1 (cc rfl (p_move (g1 rfl rfl) (od rfl (fun _ => rfl))) cn) (by kernel_rfl) s54 fun a55 w55 b55 s55 => ?_
        have z55 := z54.below b55
        have hT := hT.below b55
        have hW := hW.below b55
        show wpList _ _ _ (_ :: _) _ _
        refine callO [.tmp 106, .const (.int .u64 999), .const (.int .i64 0)] s55 (Eq.trans (s55.wanted (g1 rfl rfl) rfl) rfl) (fun _ _ => by kernel_rfl) rfl (by decide) (show Calls Try.prog 19 #[a55.tmps.getD 106 undef, .int .u64 999, .int .i64 0] w55 _ from by rw [show a55.tmps.getD 106 undef = ptrV gT from s55.get 106 rfl]; exact cThr0 hT (hK.none (by decide) (fun j hj => by omega))) (vv 105 rfl vn) fun v56 a56 w56 hR56 s56 => ?_
        obtain ⟨rfl, b56⟩ := hR56
        have hT := hT.below b56
        have hW := hW.below b56
        have z56 := z55.below b56
        refine chainK 4 (cc rfl (p_lenV ln_49 (g1 rfl rfl) (od rfl (fun _ => rfl)))
            (cc rfl (p_bin (g1 rfl rfl) (od rfl id) (oc _) b_eql_3)
            (cc rfl (p_and g0 (od rfl id) (od rfl id))
            (cc rfl (p_assign g0 (od rfl id)) cn)))) (by kernel_rfl) s56 fun a57 w57 b57 s57 => ?_
        have z57 := z56.below b57
        have hT := hT.below b57
        have hW := hW.below b57
        refine wpList_done ?_
        exact wp_ret (ret_o (fn := Try.f4) (R := fun v w' => v = .bool true ∧ Below w.heap.size w w') (v := .bool true) s57 2 rfl rfl ⟨rfl, z57.to_below (fun _ _ h => h) (Nat.le_refl _)⟩)

set_option maxRecDepth 100000 in
theorem tableThreads_lifted (os : Os) (started : os.Started) (H : Type) (enc : TypeId × Value → H) :
    ReturnsInHanded {} Try.checked os 4 .any (Rows.tableThreadsSpec.pre6 enc Try.prog Try.f4 Rows.tableThreadsRow.domain false) (Rows.tableThreadsSpec.post enc Try.prog Try.f4 false true false false) := by
  refine lifted_of (C := Try.checked) laidOut own started (by kernel_rfl) Try.func4 rfl Try.underlying4 (by kernel_rfl) rfl
    (fun ds hds => by match ds, hds with | [_], _ => rfl)
    (ChangeSpec.witness6 (enc := enc) (C := Try.checked) false ⟨#[], #[.slice none 0 0], []⟩ 8 (by kernel_rfl) (by kernel_rfl) (by kernel_rfl) (by kernel_rfl)) ?_
  intro w base args ds ps hval0 hA0 hlt
  have hval : ∀ (j : Nat) t v, Try.f4.params[j]? = some t → args[j]? = some v → Value.okWide Try.prog w .any base t v := hval0
  have hA : DataW.TrodAll enc Try.prog w 0 (fun _ => true) true Try.f4.params.toList args.toList ds ps := hA0
  rw [Try.params4] at hA hval
  obtain ⟨v0, vs0, d0, ds0, p0, q0, hargs, rfl, rfl, h0, r0⟩ := trodAll_cons hA
  obtain ⟨rfl, rfl, rfl⟩ := trodAll_nil r0
  obtain rfl : args = #[v0] := by cases args; simp_all
  obtain ⟨x0, o0, s0⟩ := open_sl Try.underlying22 opens_i22 (hval 0 22 v0 rfl rfl) h0 (fun x hx => hlt x (List.mem_append_left _ hx))
  exact (tableThreads_walk s0).mono fun e w' ⟨v, he, hv, hb⟩ => ⟨by rw [he, hv], hb⟩

set_option maxRecDepth 100000 in
theorem tableThreads_facts : joinedFacts Try.pinned.checked.prog 4 Try.f4 Rows.tableThreadsSpec Rows.tableThreadsRow = true := by
  show joinedFacts Try.prog 4 Try.f4 Rows.tableThreadsSpec Rows.tableThreadsRow = true
  unfold joinedFacts
  rw [mayEnter_ok, liftsFinal_ok, make_ok]
  kernel_rfl
theorem tableThreads_holds : Rows.TableThreadsSaid :=
  OpenClaim.holds_of_wide 4 Try.f4 rfl rfl rfl rfl rfl rfl rfl ⟨rfl, rfl, rfl, rfl, rfl⟩ rfl rfl rfl rfl rfl (by kernel_rfl) Try.func4 tableThreads_facts
    (of_decide_eq_true (by kernel_rfl)) (by unfold Func.isWrapper; rw [if_neg (of_decide_eq_false (by kernel_rfl))]; exact ⟨rfl, rfl⟩)
    (fun os started H enc _ => tableThreads_lifted os started H enc)
#print axioms tableThreads_holds

end Go.Proofs.Ytbeeiecbbmiojaa.Y
