/- TableAll: objects are gone over by their names, rising, till it is said that it is enough. -/
import Derived.Test.YtbeeiecbbmiojaaYav
import Derived.Test.YtbeeiecbbmiojaaHead
namespace Go.Proofs.Ytbeeiecbbmiojaa.Y
open Go.RowKit Go.ChangeShapes Go.WideShapes Go.ChangeAt Go.ChangeMaps Go.MapKept

theorem sz_4 : (Try.prog.info? 4).map (·.size) = some 1 := by kernel_rfl
theorem sz_3 : (Try.prog.info? 3).map (·.size) = some 1 := by kernel_rfl
section
variable {d : Nat} {t : TypeId} {p : String} {af : Array Edge} {g : Option (Nat × Bool)} {x x2 : Operand}
section
variable {U : Prop} {ops : Array Oper} {Q : Exit → Act → World → Prop} {N : Nat} {e : Env} {c : Bool}
theorem p_binE {u u' : TypeId} {o : BinOp} {v1 v2 : Value} {kk : IntKind} {n n' : Int} (hn : n = n') (hg : GdE ops e g c) (hx : OpdE e c x (.val v1)) (hx2 : OpdE e c x2 (.val v2)) (hr : Run2 Try.prog ⟨some d, .binOp o u x x2 u', t, p, af, g⟩ x x2 v1 v2 (.int kk n)) : Pays U Try.prog ops Q N e ⟨some d, .binOp o u x x2 u', t, p, af, g⟩ (c, .int kk n') := hn ▸ p_bin hg hx hx2 hr
end
end
set_option maxRecDepth 100000 in
set_option maxHeartbeats 3200000 in
/-- The walk of the law on going over a table. -/
theorem tableAll_walk {w : World} {v0 : Value} {stop : Int} {l : List Int} (h0 : (.one (Lay.sl (Lay.int .u64)) l : Sym).on w noF v0) : Calls Try.prog 12 #[v0, .int .i64 stop] w fun e w' => ∃ v, e = .returned v ∧ v = .bool true ∧ Below w.heap.size w w' := by
  have z0 : OnlyB (fun _ => False) w w := OnlyB.refl _ _
  refine calls_marks Try.func12 rfl ?_
  simp only [Try.ntmps12, List.size_toArray, List.length_cons, List.length_nil, Nat.reduceAdd, Nat.reduceSub, Array.replicate_succ, Array.replicate_zero, List.push_toArray, List.append_toArray, List.nil_append, List.cons_append]
  refine wp_seq ?_
  refine wp_region_lit ?_
  refine with_st (st0 (U := False) (N := 93) (e := [(0, true, .val (v0)), (1, true, .val (.int .i64 stop))]) (F := noF) rfl rfl (fok_no _ _) ⟨⟨rfl, rfl⟩, ⟨⟨rfl, rfl⟩, True.intro⟩⟩) fun s0 => ?_
  show wpList _ _ _ (_ :: _) _ _
  refine alloc_on (u := 3) (z := #[.int .i64 stop]) s0 (by simp [Region.wanted]) rfl (by decide) (bi_3 _ _ (s0.get 1 rfl)) (vv 0 rfl vn) fun g3 a1 w1 hB3 hg3 b1 s1 => ?_
  have ng3 := hg3
  have hg3 := Nat.le_trans z0.size hg3
  have z1 := z0.below b1
  show wpList _ _ _ (_ :: _) _ _
  refine alloc_on (u := 4) (z := #[.bool false]) s1 (by simp [Region.wanted]) rfl (by decide) (al_4 _ _) (vv 0 rfl (vv 3 rfl vn)) fun g4 a2 w2 hB4 hg4 b2 s2 => ?_
  have ng4 := hg4
  have hg4 := Nat.le_trans z1.size hg4
  have hB3 := hB3.below b2 hB3.lt
  have z2 := z1.below b2
  refine wpList_done ?_
  refine wp_seq ?_
  refine wp_seq ?_
  refine wp_region_lit ?_
  refine with_st (s2.keep (sc 0 rfl (sc 3 rfl (sc 4 rfl sn)))) fun s2 => ?_
  show wpList _ _ _ (_ :: _) _ _
  refine callO [] s2 (by simp [Region.wanted]) (fun _ _ => by kernel_rfl) rfl (by decide) (show Calls Try.prog 13 #[] w2 _ from by exact cFit) (vv 0 rfl (vv 3 rfl (vv 4 rfl vn))) fun v3 a3 w3 hR3 s3 => ?_
  obtain ⟨rfl, b3⟩ := hR3
  have hB3 := hB3.below b3 hB3.lt
  have hB4 := hB4.below b3 hB4.lt
  have z3 := z2.below b3
  refine chainK 1 (cc rfl (p_not g0 (od rfl id)) cn) (by kernel_rfl) s3 fun a4 w4 b4 s4 => ?_
  have z4 := z3.below b4
  have hB3 := hB3.below b4 hB3.lt
  have hB4 := hB4.below b4 hB4.lt
  refine wpList_done ?_
  refine s4.cond 13 rfl (fun h => absurd h (by simp)) fun _ => ?_
  refine wp_skip ?_
  refine wp_seq ?_
  refine wp_seq ?_
  have s4 := s4.more 0 (y := .both (.val v0) (.one (Lay.sl (Lay.int .u64)) l)) ⟨s4.get 0 rfl, at_in h0 z4 (s4.get 0 rfl)⟩
  refine flowC mixed (s4.keep (sc 0 rfl (sc 3 rfl (sc 4 rfl sn)))) (by kernel_rfl) (by kernel_rfl) (cc rfl (p_move g0 (od rfl id))
      (cc rfl (p_len ln_29 g0 (od2 rfl id))
      (cc rfl (p_bin g0 (od rfl id) (oc _) b_gtr_3) cn))) fun a5 w5 b5 s5 => ?_
  have z5 := z4.below b5
  have hB3 := hB3.below b5 hB3.lt
  have hB4 := hB4.below b5 hB4.lt
  have s5 := s5.more 0 (y := .val v0) (s5.get 0 rfl).1
  refine s5.cond 16 rfl (fun h16 => ?_) (fun h16 => ?_)
  · -- true
    refine wp_seq ?_
    refine wp_region_lit ?_
    refine with_st (s5.keep (sc 4 rfl sn)) fun s5 => ?_
    show wpList _ _ _ (_ :: _) _ _
    refine cells_on (vs := [.bool true]) s5 rfl rfl rfl (s5.get 4 rfl) rfl rfl hB4 (by simp) sz_4 (fun u hu => by rw [List.mem_singleton.1 hu]; rfl) (vv 4 rfl vn) fun a6 w6 hq6 gS s6 => ?_
    have hB4 : Blk w6 g4 _ #[.bool true] := hq6
    have z6 := z5.grown gS (fun x hx e => absurd hg4 (Nat.not_le.2 (by injection e with e; rw [e]; exact hx)))
    refine wpList_done ?_
    exact wp_ret (ret_cM0 (fn := Try.f12) (R := fun v w' => v = .bool true ∧ Below w.heap.size w w') (v := .bool true) s6 4 rfl rfl lv_4 hB4 ⟨rfl, z6.to_below (fun _ _ h => h) (Nat.le_refl _)⟩)
  · -- false
    have hl100 : l.length ≤ 100 := by have := of_decide_eq_false h16; (try dsimp only at this); omega
    refine wp_skip ?_
    refine wp_seq ?_
    refine wp_region_lit ?_
    refine with_st (s5.keep (sc 0 rfl (sc 3 rfl (sc 4 rfl sn)))) fun s5 => ?_
    show wpList _ _ _ (_ :: _) _ _
    refine callO (R := fun v w' => ∃ gT gM, v = ptrV gT ∧ TabAt w' w5.heap.size gT gM T0 (fun _ => .slice none 0 0) ∧ Below w5.heap.size w5 w') [] s5 (by simp [Region.wanted]) (fun _ _ => by kernel_rfl) rfl (by decide) (show Calls Try.prog 14 #[] w5 _ from by exact cNew) (vv 0 rfl (vv 3 rfl (vv 4 rfl vn))) fun v7 a7 w7 hR7 s7 => ?_
    obtain ⟨gT, gM, rfl, hT, b7⟩ := hR7
    have hbase := z5.size
    have hB3 := hB3.below b7 hB3.lt
    have hB4 := hB4.below b7 hB4.lt
    have z7 := z5.below b7
    refine chainK 1 (cc rfl (p_assign g0 (od rfl id)) cn) (by kernel_rfl) s7 fun a8 w8 b8 s8 => ?_
    have z8 := z7.below b8
    have hB3 := hB3.below b8 hB3.lt
    have hB4 := hB4.below b8 hB4.lt
    have hT := hT.below b8
    refine wpList_done ?_
    refine wp_seq ?_
    refine wp_region_lit ?_
    refine with_st (s8.keep (sc 0 rfl (sc 3 rfl (sc 4 rfl (sc 5 rfl sn))))) fun s8 => ?_
    refine chainK 2 (cc rfl (p_move g0 (od rfl id))
        (cc rfl (p_done (y := .val _) bd_48a (fun _ _ => rfl) g0) cn)) (by kernel_rfl) s8 fun a9 w9 b9 s9 => ?_
    have z9 := z8.below b9
    have hB3 := hB3.below b9 hB3.lt
    have hB4 := hB4.below b9 hB4.lt
    have hT := hT.below b9
    show wpList _ _ _ (_ :: _) _ _
    refine alloc_on (u := 48) (z := toC rootO (.slice none 0 0)) s9 (by simp [Region.wanted]) rfl (by decide) (bx_48 _ _ _ (s9.get 19 rfl)) (vv 0 rfl (vv 3 rfl (vv 4 rfl (vv 5 rfl (vv 18 rfl vn))))) fun gr a10 w10 hBgr hgr b10 s10 => ?_
    have hngr : (T0 : Tab).ob gr = none := no_at hT hgr
    have hgr := Nat.le_trans (Nat.le_of_lt (Nat.lt_of_le_of_lt hT.bT hT.tb.lt)) hgr
    have hB3 := hB3.below b10 hB3.lt
    have hB4 := hB4.below b10 hB4.lt
    have hT := hT.below b10
    have z10 := z9.below b10
    have hO := objAt0 (B := w5.heap.size) (o := rootO) rfl rfl hBgr rfl
    show wpList _ _ _ (_ :: _) _ _
    refine callO [.tmp 18, .tmp 20] s10 (by simp [Region.wanted]) (fun _ _ => by kernel_rfl) rfl (by decide) (show Calls Try.prog 15 #[a10.tmps.getD 18 undef, a10.tmps.getD 20 undef] w10 _ from by rw [show a10.tmps.getD 18 undef = ptrV gT from s10.get 18 rfl, show a10.tmps.getD 20 undef = ptrV gr from s10.get 20 rfl]; exact cAdd hT hO hgr hngr (fun _ _ h => by cases h) (fun _ _ h => by cases h)) (vv 0 rfl (vv 3 rfl (vv 4 rfl (vv 5 rfl vn)))) fun v11 a11 w11 hR11 s11 => ?_
    obtain ⟨rfl, _, hyes⟩ := hR11
    obtain ⟨kv1, hT2, zA, _⟩ := hyes (fit_1 gr).1
    rw [(fit_1 gr).2] at hT2
    have hB3 := blk_only hB3 zA (tab_ty hT hB3 (by decide) (by decide) (by decide) (by decide))
    have hB4 := blk_only hB4 zA (tab_ty hT hB4 (by decide) (by decide) (by decide) (by decide))
    have z11 := z10.trans zA (fun x hx hS => absurd (Nat.le_trans hbase (hT.lt hS).1) (Nat.not_le.2 hx))
    have hT := hT2
    refine wpList_done ?_
    refine wp_seq ?_
    refine flowC mixed (s11.keep (sc 0 rfl (sc 3 rfl (sc 4 rfl (sc 5 rfl sn))))) (by kernel_rfl) (by kernel_rfl) (cc rfl (p_assign g0 (oc _)) cn) fun a12 w12 b12 s12 => ?_
    have z12 := z11.below b12
    have hB3 := hB3.below b12 hB3.lt
    have hB4 := hB4.below b12 hB4.lt
    have hT := hT.below b12
    refine wp_seq ?_
    refine wp_seq ?_
    have s12 := s12.more 0 (y := .both (.val v0) (.one (Lay.sl (Lay.int .u64)) l)) ⟨s12.get 0 rfl, at_in h0 z12 (s12.get 0 rfl)⟩
    refine flowC mixed (s12.keep (sc 0 rfl (sc 3 rfl (sc 4 rfl (sc 5 rfl (sc 6 rfl sn)))))) (by kernel_rfl) (by kernel_rfl) (cc rfl (p_move g0 (od rfl id))
        (cc rfl (p_len ln_29 g0 (od2 rfl id))
        (cc rfl (p_move g0 (oc _)) cn))) fun a13 w13 b13 s13 => ?_
    have z13 := z12.below b13
    have hB3 := hB3.below b13 hB3.lt
    have hB4 := hB4.below b13 hB4.lt
    have hT := hT.below b13
    have s13 := s13.more 22 (y := .val v0) (s13.get 22 rfl).1
    refine wp_block ?_
    refine wp_count l.length 24 (fun i a wr => ∃ t kv L m, TabAt wr w5.heap.size gT gM t kv ∧ AInv t gr L ∧ LenB t i ∧ L.length ≤ i ∧ m = L.length + 1 ∧ Blk wr g3 3 #[.int .i64 stop] ∧ Blk wr g4 4 #[.bool false] ∧ OnlyB (fun _ => False) w wr ∧ StE False 93 [(3, true, .val (ptrV g3)), (4, true, .val (ptrV g4)), (5, true, .val (ptrV gT)), (6, true, .int .i64 (m : Int)), (22, true, .val v0), (23, true, .int .i64 (l.length : Int)), (24, true, .int .i64 (i : Int))] noF a wr) (fun _ _ _ ⟨_, _, _, _, _, _, _, _, _, _, _, _, h⟩ => h.get 24 rfl) ⟨_, _, _, 1, hT, ainv_T1 gr, lenB_T1 gr, Nat.le_refl _, rfl, hB3, hB4, z13, s13.to _ ⟨rfl, rfl, rfl, rfl, rfl, rfl, rfl, True.intro⟩⟩ fun i a14 w14 hi14 hI => ?_
    obtain ⟨t, kv, L, m, hT, hA, hL, hLl, hm, hB3, hB4, z14, s14⟩ := hI
    refine wp_seq ?_
    refine flowC mixed (s14.keep (sc 3 rfl (sc 4 rfl (sc 5 rfl (sc 6 rfl (sc 22 rfl (sc 23 rfl (sc 24 rfl sn)))))))) (by kernel_rfl) (by kernel_rfl) (cc rfl (p_bin g0 (od rfl id) (od rfl id) b_lss_3) cn) fun a15 w15 b15 s15 => ?_
    have z15 := z14.below b15
    have hT := hT.below b15
    have hB3 := hB3.below b15 hB3.lt
    have hB4 := hB4.below b15 hB4.lt
    refine wp_seq ?_
    refine s15.cond 25 rfl (fun h25 => ?_) (fun h25 => ?_)
    · -- true
      have hlt : i < l.length := by simpa using h25
      obtain ⟨x, ex⟩ : ∃ x, l[i]? = some x := ⟨_, List.getElem?_eq_getElem hlt⟩
      obtain ⟨n, en⟩ : ∃ n, n = x % 65536 := ⟨_, rfl⟩
      have hname := (u64_and65535 x).trans en.symm
      have hn0 : 0 ≤ n ∧ n < 65536 := by omega
      refine wp_skip ?_
      refine wp_seq ?_
      refine wp_block ?_
      refine wp_seq ?_
      have s15 := s15.more 22 (y := .both (.val v0) (.one (Lay.sl (Lay.int .u64)) l)) ⟨s15.get 22 rfl, at_in h0 z15 (s15.get 22 rfl)⟩
      refine flowC mixed (s15.keep (sc 3 rfl (sc 4 rfl (sc 5 rfl (sc 6 rfl (sc 22 rfl (sc 23 rfl (sc 24 rfl (sc 25 rfl sn))))))))) (by kernel_rfl) (by kernel_rfl) (cc rfl (p_index ix_29 ex g0 (od2 rfl id) (od rfl id))
          (cc rfl (p_loadI ld_28 g0 (od rfl id))
          (cc rfl (p_assign g0 (od rfl id)) cn))) fun a16 w16 b16 s16 => ?_
      have z16 := z15.below b16
      have hT := hT.below b16
      have hB3 := hB3.below b16 hB3.lt
      have hB4 := hB4.below b16 hB4.lt
      have s16 := s16.more 22 (y := .val v0) (s16.get 22 rfl).1
      refine wp_seq ?_
      refine flowT (s16.keep (sc 3 rfl (sc 4 rfl (sc 5 rfl (sc 6 rfl (sc 8 rfl (sc 22 rfl (sc 23 rfl (sc 24 rfl (sc 25 rfl (sc 26 rfl (sc 27 rfl sn)))))))))))) (by kernel_rfl) (cc rfl (p_move g0 (od rfl id))
          (cc rfl (p_binE hname g0 (od rfl id) (oc _) b_and_28)
          (cc rfl (p_assign g0 (od rfl id)) cn))) fun a17 w17 b17 s17 => ?_
      have z17 := z16.below b17
      have hT := hT.below b17
      have hB3 := hB3.below b17 hB3.lt
      have hB4 := hB4.below b17 hB4.lt
      refine wp_seq ?_
      refine wp_region_lit ?_
      refine with_st (s17.keep (sc 3 rfl (sc 4 rfl (sc 5 rfl (sc 6 rfl (sc 8 rfl (sc 22 rfl (sc 23 rfl (sc 24 rfl sn))))))))) fun s17 => ?_
      refine chainK 3 (cc rfl (p_move g0 (od rfl id))
          (cc rfl (p_move g0 (od rfl id))
          (cc rfl (p_runC (od rfl id) bd_48b (fun s h => by simp [Op.operands, h]) g0) cn))) (by kernel_rfl) s17 fun a18 w18 b18 s18 => ?_
      have z18 := z17.below b18
      have hT := hT.below b18
      have hB3 := hB3.below b18 hB3.lt
      have hB4 := hB4.below b18 hB4.lt
      show wpList _ _ _ (_ :: _) _ _
      refine alloc_on (u := 48) (z := toC ⟨n, 2, 1, [], none⟩ (.slice none 0 0)) s18 (by simp [Region.wanted]) rfl (by decide) (bx_48 _ _ _ (s18.get 32 rfl)) (vv 3 rfl (vv 4 rfl (vv 5 rfl (vv 6 rfl (vv 22 rfl (vv 23 rfl (vv 24 rfl (vv 30 rfl vn)))))))) fun g2 a19 w19 hBg2 hg2 b19 s19 => ?_
      have hng2 : (t : Tab).ob g2 = none := no_at hT hg2
      have hg2 := Nat.le_trans (Nat.le_of_lt (Nat.lt_of_le_of_lt hT.bT hT.tb.lt)) hg2
      have hT := hT.below b19
      have hB3 := hB3.below b19 hB3.lt
      have hB4 := hB4.below b19 hB4.lt
      have z19 := z18.below b19
      have hO := objAt0 (B := w5.heap.size) (o := ⟨n, 2, 1, [], none⟩) rfl rfl hBg2 rfl
      show wpList _ _ _ (_ :: _) _ _
      refine callO [.tmp 30, .tmp 33] s19 (by simp [Region.wanted]) (fun _ _ => by kernel_rfl) rfl (by decide) (show Calls Try.prog 15 #[a19.tmps.getD 30 undef, a19.tmps.getD 33 undef] w19 _ from by rw [show a19.tmps.getD 30 undef = ptrV gT from s19.get 30 rfl, show a19.tmps.getD 33 undef = ptrV g2 from s19.get 33 rfl]; exact cAdd hT hO hg2 hng2 hA.ok (lenB_lt hL (by omega))) (vv 3 rfl (vv 4 rfl (vv 5 rfl (vv 6 rfl (vv 22 rfl (vv 23 rfl (vv 24 rfl vn))))))) fun v20 a20 w20 hR20 s20 => ?_
      obtain ⟨rfl, hno, hyes⟩ := hR20
      refine wpList_done ?_
      refine s20.cond 34 rfl (fun h34 => ?_) (fun h34 => ?_)
      · -- true
        obtain ⟨kv3, hT2, zA, _⟩ := hyes h34
        have hB3 := blk_only hB3 zA (tab_ty hT hB3 (by decide) (by decide) (by decide) (by decide))
        have hB4 := blk_only hB4 zA (tab_ty hT hB4 (by decide) (by decide) (by decide) (by decide))
        have z20 := z19.trans zA (fun x hx hS => absurd (Nat.le_trans hbase (hT.lt hS).1) (Nat.not_le.2 hx))
        have hA := hA.add hn0.1 hn0.2 hng2 h34
        have hT := hT2
        have hL := hL.add (g := g2) (o := ⟨n, 2, 1, [], none⟩) (Nat.zero_le _)
        have hLl : (L ++ [n]).length ≤ i + 1 := by rw [List.length_append, List.length_singleton]; omega
        refine flowT (s20.keep (sc 3 rfl (sc 4 rfl (sc 5 rfl (sc 6 rfl (sc 22 rfl (sc 23 rfl (sc 24 rfl (sc 34 rfl sn))))))))) (by kernel_rfl) (cc rfl (p_move g0 (od rfl id))
            (cc rfl (p_bin g0 (od rfl id) (oc _) (inc_3 (by omega)))
            (cc rfl (p_assign g0 (od rfl id)) cn))) fun a21 w21 b21 s21 => ?_
        have z21 := z20.below b21
        have hT := hT.below b21
        have hB3 := hB3.below b21 hB3.lt
        have hB4 := hB4.below b21 hB4.lt
        have hm : m + 1 = (L ++ [n]).length + 1 := by rw [List.length_append, List.length_singleton]; omega
        refine flowT (s21.keep (sc 3 rfl (sc 4 rfl (sc 5 rfl (sc 6 rfl (sc 22 rfl (sc 23 rfl (sc 24 rfl (sc 34 rfl (sc 35 rfl (sc 36 rfl sn))))))))))) (by kernel_rfl) (cc rfl (p_bin g0 (od rfl id) (oc _) (inc_3 (by omega)))
            (cc rfl (p_move g0 (od rfl id)) cn)) fun a22 w22 b22 s22 => ?_
        have z22 := z21.below b22
        have hT := hT.below b22
        have hB3 := hB3.below b22 hB3.lt
        have hB4 := hB4.below b22 hB4.lt
        exact ⟨hlt, _, _, _, _, hT, hA, hL, hLl, hm, hB3, hB4, z22, s22.to _ ⟨rfl, rfl, rfl, rfl, rfl, rfl, rfl, True.intro⟩⟩
      · -- false
        have b20 := hno h34
        have hT := hT.below b20
        have hB3 := hB3.below b20 hB3.lt
        have hB4 := hB4.below b20 hB4.lt
        have z20 := z19.below b20
        have hL := hL.mono (Nat.le_succ i)
        have hLl := Nat.le_succ_of_le hLl
        refine wp_skip ?_
        refine flowT (s20.keep (sc 3 rfl (sc 4 rfl (sc 5 rfl (sc 6 rfl (sc 22 rfl (sc 23 rfl (sc 24 rfl (sc 34 rfl sn))))))))) (by kernel_rfl) (cc rfl (p_bin g0 (od rfl id) (oc _) (inc_3 (by omega)))
            (cc rfl (p_move g0 (od rfl id)) cn)) fun a23 w23 b23 s23 => ?_
        have z23 := z20.below b23
        have hT := hT.below b23
        have hB3 := hB3.below b23 hB3.lt
        have hB4 := hB4.below b23 hB4.lt
        exact ⟨hlt, _, _, _, _, hT, hA, hL, hLl, hm, hB3, hB4, z23, s23.to _ ⟨rfl, rfl, rfl, rfl, rfl, rfl, rfl, True.intro⟩⟩
    · -- false
      obtain rfl : i = l.length := by have := of_decide_eq_false h25; (try dsimp only at this); omega
      refine wp_exit ?_
      refine wp_seq ?_
      have hlt3 := hB3.lt
      have hlt4 := hB4.lt
      have hTo := hT
      refine wp_region_lit ?_
      refine with_st (s15.keep (sc 3 rfl (sc 4 rfl (sc 5 rfl (sc 6 rfl sn))))) fun s15 => ?_
      show wpList _ _ _ (_ :: _) _ _
      refine alloc_on (u := 28) (z := #[.int .u64 0]) s15 (by simp [Region.wanted]) rfl (by decide) (al_28 _ _) (vv 3 rfl (vv 4 rfl (vv 5 rfl (vv 6 rfl vn)))) fun gl a24 w24 hBl hgl b24 s24 => ?_
      have ngl := hgl
      have hgl := Nat.le_trans z15.size hgl
      have hT := hT.below b24
      have hB3 := hB3.below b24 hB3.lt
      have hB4 := hB4.below b24 hB4.lt
      have z24 := z15.below b24
      have hNgl := tab_fr hTo ngl
      have hltl := hBl.lt
      show wpList _ _ _ (_ :: _) _ _
      have hTo := hT
      refine alloc_on (u := 3) (z := #[.int .i64 0]) s24 (by simp [Region.wanted]) rfl (by decide) (al_3v _ _) (vv 3 rfl (vv 4 rfl (vv 5 rfl (vv 6 rfl (vv 9 rfl vn))))) fun gi a25 w25 hBi hgi b25 s25 => ?_
      have ngi := hgi
      have hgi := Nat.le_trans z24.size hgi
      have hT := hT.below b25
      have hB3 := hB3.below b25 hB3.lt
      have hB4 := hB4.below b25 hB4.lt
      have hBl := hBl.below b25 hBl.lt
      have z25 := z24.below b25
      have hNgi := tab_fr hTo ngi
      show wpList _ _ _ (_ :: _) _ _
      refine cells_on (vs := [.int .u64 0]) s25 rfl rfl rfl (s25.get 9 rfl) rfl rfl hBl (by simp) sz_28 (fun u hu => by rw [List.mem_singleton.1 hu]; rfl) (vv 3 rfl (vv 4 rfl (vv 5 rfl (vv 6 rfl (vv 9 rfl (vv 10 rfl vn)))))) fun a26 w26 hq26 gS s26 => ?_
      have hT := hT.grown gS (fun j hj e => absurd hj (by injection e with e; rw [← e]; exact hNgl))
      have hB3 := hB3.grown gS (fun e => absurd e (by intro e; injection e with e; omega))
      have hB4 := hB4.grown gS (fun e => absurd e (by intro e; injection e with e; omega))
      have hBi := hBi.grown gS (fun e => absurd e (by intro e; injection e with e; omega))
      have hBl : Blk w26 gl _ #[.int .u64 0] := hq26
      have z26 := z25.grown gS (fun x hx e => absurd hgl (Nat.not_le.2 (by injection e with e; rw [e]; exact hx)))
      show wpList _ _ _ (_ :: _) _ _
      refine cells_on (vs := [.int .i64 0]) s26 rfl rfl rfl (s26.get 10 rfl) rfl rfl hBi (by simp) sz_3 (fun u hu => by rw [List.mem_singleton.1 hu]; rfl) (vv 3 rfl (vv 4 rfl (vv 5 rfl (vv 6 rfl (vv 9 rfl (vv 10 rfl vn)))))) fun a27 w27 hq27 gS s27 => ?_
      have hT := hT.grown gS (fun j hj e => absurd hj (by injection e with e; rw [← e]; exact hNgi))
      have hB3 := hB3.grown gS (fun e => absurd e (by intro e; injection e with e; omega))
      have hB4 := hB4.grown gS (fun e => absurd e (by intro e; injection e with e; omega))
      have hBl := hBl.grown gS (fun e => absurd e (by intro e; injection e with e; omega))
      have hBi : Blk w27 gi _ #[.int .i64 0] := hq27
      have z27 := z26.grown gS (fun x hx e => absurd hgi (Nat.not_le.2 (by injection e with e; rw [e]; exact hx)))
      refine wpList_done ?_
      have hB34 : g3 ≠ g4 := blk_ne hB3 hB4 (by decide)
      refine wp_seq ?_
      refine wp_seq ?_
      refine flowC mixed (s27.keep (sc 3 rfl (sc 4 rfl (sc 5 rfl (sc 6 rfl (sc 9 rfl (sc 10 rfl sn))))))) (by kernel_rfl) (by kernel_rfl) (cc rfl (p_move g0 (od rfl id))
          (cc rfl (p_mk37 g0 (od rfl id)) cn)) fun a28 w28 b28 s28 => ?_
      have z28 := z27.below b28
      have hT := hT.below b28
      have hB3 := hB3.below b28 hB3.lt
      have hB4 := hB4.below b28 hB4.lt
      have hBl := hBl.below b28 hBl.lt
      have hBi := hBi.below b28 hBi.lt
      obtain ⟨ns, hns, hrise, hpos⟩ := hA.names
      have hnl : ns.length = L.length + 1 := by have := hns.length_eq; rw [List.length_map, hA.len] at this; exact this
      have hlookA : ∀ x ∈ ns, ∃ o, t.ob (lookG t x) = some o ∧ o.name = x := fun x hx => hA.ok _ _ (look_some (hns.mem_iff.1 hx))
      have hsz : w.heap.size ≤ w28.heap.size := z28.size
      have hlt3 := hB3.lt
      have hlt4 := hB4.lt
      have hltl := hBl.lt
      have hlti := hBi.lt
      have hlT : ∀ i, TabB gT gM t kv i → i < w28.heap.size := fun i hi => (hT.lt hi).2
      refine wp_cutM (fun a W => AllX w w5.heap.size gT gM g3 g4 gi t kv ns.length stop W ∧ W.heap[w28.heap.size]? = some (.deferred (some [])) ∧ StE False 93 [(3, true, .val (ptrV g3)), (4, true, .val (ptrV g4)), (5, true, .val (ptrV gT)), (6, true, .int .i64 (m : Int)), (9, true, .val (ptrV gl)), (10, true, .val (ptrV gi))] noF a W [mark w28.heap.size]) ?_ ?_
      · -- the range
        refine wp_block ?_
        refine range_m (E := fun g => g = gl ∨ g = gi) (xs := ns.map (lookG t)) (enc := ptrV) s28 (vv 3 rfl (vv 4 rfl (vv 5 rfl (vv 6 rfl (vv 9 rfl (vv 10 rfl vn)))))) (by decide) (by decide) (s28.get 39 rfl) enters37 (AllI w w5.heap.size gT gM g3 g4 gl gi t kv ns stop) (fun c _ W => c = .exit 2 ∧ AllX w w5.heap.size gT gM g3 g4 gi t kv ns.length stop W) (fun p A C h hb => h.below hb hltl hlti hlT hlt3 hlt4 hsz) (fun c p A C h hb => ⟨h.1, h.2.below hb hlti hlT hlt3 hlt4 hsz⟩) ⟨0, 0, rfl, Nat.zero_le _, fun x hx => hpos x hx, hBl, hBi, hT, hB3, hB4, z28⟩ (iAll hT hns hrise hA.ne (by rw [hA.len]; omega) (fun g hg => by rcases hg with rfl | rfl; exact ⟨hltl, (fun e => hNgl (.inl e)), fun e => hNgl (.inr (.inl e))⟩; exact ⟨hlti, (fun e => hNgi (.inl e)), fun e => hNgi (.inr (.inl e))⟩)) (fun lp pre x a0 W hI hpre hlt2 s0 => ?_) (fun a0 W hI hK s0 => ?_) (fun c pre a0 W hpre hI hK s0 => ?_)
        · -- a round
          obtain ⟨k, last, hpe, hk, hlast, hBl, hBi, hT, hB3, hB4, zW⟩ := hI
          obtain ⟨hkl, hkx, hpk⟩ := pre_next hpe (by rw [List.length_map]; exact hk) hpre
          rw [List.length_map] at hkl
          rw [List.getElem?_map, List.getElem?_eq_getElem hkl] at hkx
          obtain rfl : lookG t ns[k] = x := by injection hkx
          obtain ⟨o, ho, hon⟩ := hlookA ns[k] (List.getElem_mem hkl)
          have hdrop := List.drop_eq_getElem_cons hkl
          have hlx : last < o.name := by rw [hon]; exact hlast _ (by rw [hdrop]; exact List.mem_cons_self)
          have hnext : ∀ y ∈ ns.drop (k + 1), o.name < y := fun y hy => by rw [hon]; have := hrise.sublist (List.drop_sublist k ns); rw [hdrop] at this; exact (List.pairwise_cons.1 this).1 y hy
          have hBo := (hT.ob _ _ ho).blk
          have zr : OnlyB (fun g => g = gl ∨ g = gi) W W := OnlyB.refl _ _
          have zq : OnlyB (fun _ => False) w W := zW
          refine wpIn_block ?_
          refine wpIn_seq ?_
          refine wpIn_seq ?_
          have s0 := s0.more 11 (y := .bp (lookG t ns[k]) 48 (toC o (kv (lookG t ns[k]))) 0) (at_obj hBo (s0.get 11 rfl))
          have s0 := s0.more 9 (y := .bp gl 28 #[.int .u64 last] 0) (at_obj hBl (s0.get 9 rfl))
          refine flowCIn mixed (fun ⟨_, _, h⟩ => h) (by kernel_rfl) (s0.keep (sc 3 rfl (sc 4 rfl (sc 5 rfl (sc 6 rfl (sc 9 rfl (sc 10 rfl (sc 11 rfl sn)))))))) (by kernel_rfl) (by kernel_rfl) (cc rfl (p_move g0 (od rfl id))
              (cc rfl (p_nilB g0 (od rfl id))
              (cc rfl (p_faB fa_48_1 g0 (od rfl id))
              (cc rfl (p_ldB ld_28 rfl g0 (od rfl id))
              (cc rfl (p_ldB ld_28 rfl g0 (od rfl id))
              (cc rfl (p_bin g0 (od rfl id) (od rfl id) b_leq_28) cn)))))) fun a29 w29 b29 s29 => ?_
          have z29 := zq.below b29
          have hT := hT.below b29
          have hB3 := hB3.below b29 hB3.lt
          have hB4 := hB4.below b29 hB4.lt
          have hBl := hBl.below b29 hBl.lt
          have hBi := hBi.below b29 hBi.lt
          have hBo := hBo.below b29 hBo.lt
          have zr := zr.below b29
          have s29 := s29.more 11 (y := .val (ptrV (lookG t ns[k]))) (s29.get 11 rfl).1
          have s29 := s29.more 9 (y := .val (ptrV gl)) (s29.get 9 rfl).1
          refine s29.condIn 46 rfl (fun h => absurd h (by simp; omega)) fun _ => ?_
          refine wpIn_skip ?_
          refine wpIn_seq ?_
          have s29 := s29.more 11 (y := .bp (lookG t ns[k]) 48 (toC o (kv (lookG t ns[k]))) 0) (at_obj hBo (s29.get 11 rfl))
          refine reg_in (fun ⟨_, _, h⟩ => h) (by kernel_rfl) ?_
          refine with_st (s29.keep (sc 3 rfl (sc 4 rfl (sc 5 rfl (sc 6 rfl (sc 9 rfl (sc 10 rfl (sc 11 rfl sn)))))))) fun s29 => ?_
          refine chainK 4 (cc rfl (p_move g0 (od rfl id))
              (cc rfl (p_nilB g0 (od rfl id))
              (cc rfl (p_faB fa_48_1 g0 (od rfl id))
              (cc rfl (p_ldB ld_28 rfl g0 (od rfl id)) cn)))) (by kernel_rfl) s29 fun a30 w30 b30 s30 => ?_
          have z30 := z29.below b30
          have hT := hT.below b30
          have hB3 := hB3.below b30 hB3.lt
          have hB4 := hB4.below b30 hB4.lt
          have hBl := hBl.below b30 hBl.lt
          have hBi := hBi.below b30 hBi.lt
          have hBo := hBo.below b30 hBo.lt
          have zr := zr.below b30
          show wpList _ _ _ (_ :: _) _ _
          have s30 := s30.more 11 (y := .val (ptrV (lookG t ns[k]))) (s30.get 11 rfl).1
          refine cells_on (vs := [.int .u64 o.name]) s30 rfl rfl rfl (s30.get 9 rfl) (s30.get 50 rfl) rfl hBl (by simp) sz_28 (fun u hu => by rw [List.mem_singleton.1 hu]; rfl) (vv 3 rfl (vv 4 rfl (vv 5 rfl (vv 6 rfl (vv 9 rfl (vv 10 rfl (vv 11 rfl vn))))))) fun a31 w31 hq31 gS s31 => ?_
          have hT := hT.grown gS (fun j hj e => absurd hj (by injection e with e; rw [← e]; exact hNgl))
          have hB3 := hB3.grown gS (fun e => absurd e (by intro e; injection e with e; omega))
          have hB4 := hB4.grown gS (fun e => absurd e (by intro e; injection e with e; omega))
          have hBi := hBi.grown gS (fun e => absurd e (by intro e; injection e with e; omega))
          have hBo := (hT.ob _ _ ho).blk
          have zr := zr.grown gS (fun x _ e => .inl (by injection e with e; exact e.symm))
          have hBl : Blk w31 gl _ #[.int .u64 o.name] := hq31
          have z31 := z30.grown gS (fun x hx e => absurd hgl (Nat.not_le.2 (by injection e with e; rw [e]; exact hx)))
          refine wpList_done ?_
          refine wpIn_seq ?_
          have s31 := s31.more 10 (y := .bp gi 3 #[.int .i64 (k : Int)] 0) (at_obj hBi (s31.get 10 rfl))
          refine reg_in (fun ⟨_, _, h⟩ => h) (by kernel_rfl) ?_
          refine with_st (s31.keep (sc 3 rfl (sc 4 rfl (sc 5 rfl (sc 6 rfl (sc 9 rfl (sc 10 rfl (sc 11 rfl sn)))))))) fun s31 => ?_
          refine chainK 2 (cc rfl (p_ldB ld_3 rfl g0 (od rfl id))
              (cc rfl (p_bin g0 (od rfl id) (oc _) (inc_3 (by omega))) cn)) (by kernel_rfl) s31 fun a32 w32 b32 s32 => ?_
          have z32 := z31.below b32
          have hT := hT.below b32
          have hB3 := hB3.below b32 hB3.lt
          have hB4 := hB4.below b32 hB4.lt
          have hBl := hBl.below b32 hBl.lt
          have hBi := hBi.below b32 hBi.lt
          have hBo := hBo.below b32 hBo.lt
          have zr := zr.below b32
          show wpList _ _ _ (_ :: _) _ _
          have s32 := s32.more 10 (y := .val (ptrV gi)) (s32.get 10 rfl).1
          refine cells_on (vs := [.int .i64 ((k + 1 : Nat) : Int)]) s32 rfl rfl rfl (s32.get 10 rfl) (s32.get 52 rfl) rfl hBi (by simp) sz_3 (fun u hu => by rw [List.mem_singleton.1 hu]; rfl) (vv 3 rfl (vv 4 rfl (vv 5 rfl (vv 6 rfl (vv 9 rfl (vv 10 rfl (vv 11 rfl vn))))))) fun a33 w33 hq33 gS s33 => ?_
          have hT := hT.grown gS (fun j hj e => absurd hj (by injection e with e; rw [← e]; exact hNgi))
          have hB3 := hB3.grown gS (fun e => absurd e (by intro e; injection e with e; omega))
          have hB4 := hB4.grown gS (fun e => absurd e (by intro e; injection e with e; omega))
          have hBl := hBl.grown gS (fun e => absurd e (by intro e; injection e with e; omega))
          have hBo := (hT.ob _ _ ho).blk
          have zr := zr.grown gS (fun x _ e => .inr (by injection e with e; exact e.symm))
          have hBi : Blk w33 gi _ #[.int .i64 ((k + 1 : Nat) : Int)] := hq33
          have z33 := z32.grown gS (fun x hx e => absurd hgi (Nat.not_le.2 (by injection e with e; rw [e]; exact hx)))
          refine wpList_done ?_
          refine wpIn_seq ?_
          have s33 := s33.more 10 (y := .bp gi 3 #[.int .i64 ((k + 1 : Nat) : Int)] 0) (at_obj hBi (s33.get 10 rfl))
          have s33 := s33.more 3 (y := .bp g3 3 #[.int .i64 stop] 0) (at_obj hB3 (s33.get 3 rfl))
          refine flowCIn mixed (fun ⟨_, _, h⟩ => h) (by kernel_rfl) (s33.keep (sc 3 rfl (sc 4 rfl (sc 5 rfl (sc 6 rfl (sc 10 rfl sn)))))) (by kernel_rfl) (by kernel_rfl) (cc rfl (p_ldB ld_3 rfl g0 (od rfl id))
              (cc rfl (p_ldB ld_3 rfl g0 (od rfl id))
              (cc rfl (p_bin g0 (od rfl id) (od rfl id) b_eql_3) cn))) fun a34 w34 b34 s34 => ?_
          have z34 := z33.below b34
          have hT := hT.below b34
          have hB3 := hB3.below b34 hB3.lt
          have hB4 := hB4.below b34 hB4.lt
          have hBl := hBl.below b34 hBl.lt
          have hBi := hBi.below b34 hBi.lt
          have hBo := hBo.below b34 hBo.lt
          have zr := zr.below b34
          refine s34.condIn 55 rfl (fun h55 => ?_) (fun h55 => ?_)
          · -- true
            refine wpIn_exit ?_
            exact ⟨⟨zr.block _ (by omega) (by omega), zr.block _ (by omega) (by omega)⟩, rfl, k + 1, .inr (by simpa using h55), hBi, hT, hB3, hB4, z34⟩
          · -- false
            refine wpIn_skip ?_
            exact ⟨⟨zr.block _ (by omega) (by omega), zr.block _ (by omega) (by omega)⟩, KeepE.only (zr.mono fun _ _ h => h), k + 1, o.name, hpk, by omega, hnext, hBl, hBi, hT, hB3, hB4, z34⟩
        · -- all
          obtain ⟨k, last, hpe, hk, hlast, hBl, hBi, hT, hB3, hB4, zW⟩ := hI
          have hkn : k = ns.length := by have h1 := congrArg List.length hpe; rw [List.length_take, List.length_map] at h1; omega
          exact ⟨⟨k, .inl hkn, hBi, hT, hB3, hB4, zW⟩, hK, s0⟩
        · -- enough
          obtain ⟨rfl, hX⟩ := hI
          exact wp_exit ⟨hX, hK, s0⟩
      rintro a35 w35 ⟨⟨k, hkn, hBi, hT, hB3, hB4, z35⟩, hK, s35⟩
      have hDw : w.heap.size ≤ w28.heap.size := hsz
      refine wp_seq ?_
      have hlenT := hA.len
      refine wp_region_lit ?_
      refine with_st (s35.keep (sc 3 rfl (sc 4 rfl (sc 5 rfl (sc 6 rfl (sc 10 rfl sn)))))) fun s35 => ?_
      refine chainK 1 (cc rfl (p_move g0 (od rfl id)) cn) (by kernel_rfl) s35 fun a36 w36 b36 s36 => ?_
      have z36 := z35.below b36
      have hK := dk_below hK b36
      have hT := hT.below b36
      have hB3 := hB3.below b36 hB3.lt
      have hB4 := hB4.below b36 hB4.lt
      have hBi := hBi.below b36 hBi.lt
      show wpList _ _ _ (_ :: _) _ _
      refine callO [.tmp 56] s36 (by simp [Region.wanted]) (fun _ _ => by kernel_rfl) rfl (by decide) (show Calls Try.prog 18 #[a36.tmps.getD 56 undef] w36 _ from by rw [show a36.tmps.getD 56 undef = ptrV gT from s36.get 56 rfl]; exact cLen hT) (vv 3 rfl (vv 4 rfl (vv 5 rfl (vv 6 rfl (vv 10 rfl vn))))) fun v37 a37 w37 hR37 s37 => ?_
      obtain ⟨rfl, b37⟩ := hR37
      have hK := dk_below hK b37
      have hT := hT.below b37
      have hB3 := hB3.below b37 hB3.lt
      have hB4 := hB4.below b37 hB4.lt
      have hBi := hBi.below b37 hBi.lt
      have z37 := z36.below b37
      have s37 := s37.more 10 (y := .bp gi 3 #[.int .i64 (k : Int)] 0) (at_obj hBi (s37.get 10 rfl))
      have s37 := s37.more 3 (y := .bp g3 3 #[.int .i64 stop] 0) (at_obj hB3 (s37.get 3 rfl))
      refine chainK 13 (cc rfl (p_move g0 (od rfl id))
          (cc rfl (p_bin g0 (od rfl id) (od rfl id) b_eql_3)
          (cc rfl (p_move g0 (od rfl id))
          (cc rfl (p_ldB ld_3 rfl (g1 rfl rfl) (od rfl (fun _ => rfl)))
          (cc rfl (p_move (g1 rfl rfl) (od rfl (fun _ => rfl)))
          (cc rfl (p_bin (g1 rfl rfl) (od rfl id) (od rfl id) b_eql_3)
          (cc rfl (p_move (g1 rfl rfl) (od rfl id))
          (cc rfl (p_ldB ld_3 rfl (g1 rfl rfl) (od rfl (fun _ => rfl)))
          (cc rfl (p_ldB ld_3 rfl (g1 rfl rfl) (od rfl (fun _ => rfl)))
          (cc rfl (p_bin (g1 rfl rfl) (od rfl id) (od rfl id) b_eql_3)
          (cc rfl (p_or (g1 rfl rfl) (od rfl id) (od rfl id))
          (cc rfl (p_and g0 (od rfl id) (od rfl id))
          (cc rfl (p_move g0 (od rfl id)) cn))))))))))))) (by kernel_rfl) s37 fun a38 w38 b38 s38 => ?_
      have z38 := z37.below b38
      have hK := dk_below hK b38
      have hT := hT.below b38
      have hB3 := hB3.below b38 hB3.lt
      have hB4 := hB4.below b38 hB4.lt
      have hBi := hBi.below b38 hBi.lt
      have s38 := s38.more 60 (y := .bool true) (bool_as (s38.get 60 rfl) (by rw [hA.len, hm]; simp))
      have s38 := s38.more 10 (y := .val (ptrV gi)) (s38.get 10 rfl).1
      have s38 := s38.more 3 (y := .val (ptrV g3)) (s38.get 3 rfl).1
      have s38 := s38.more 70 (y := .bool true) (bool_as (s38.get 70 rfl) (by rcases hkn with h | h <;> simp [h, hnl, hm, hlenT]))
      refine chainK 1 (cc rfl (p_move (g1 rfl rfl) (od rfl (fun _ => rfl))) cn) (by kernel_rfl) s38 fun a39 w39 b39 s39 => ?_
      have z39 := z38.below b39
      have hK := dk_below hK b39
      have hT := hT.below b39
      have hB3 := hB3.below b39 hB3.lt
      have hB4 := hB4.below b39 hB4.lt
      have hBi := hBi.below b39 hBi.lt
      show wpList _ _ _ (_ :: _) _ _
      refine callO [.tmp 71, .const (.pointer none)] s39 (Eq.trans (s39.wanted (g1 rfl rfl) rfl) rfl) (fun _ _ => by kernel_rfl) rfl (by decide) (show Calls Try.prog 15 #[a39.tmps.getD 71 undef, .pointer none] w39 _ from by rw [show a39.tmps.getD 71 undef = ptrV gT from s39.get 71 rfl]; exact cAddN) (vv 4 rfl (vv 5 rfl (vv 70 rfl vn))) fun v40 a40 w40 hR40 s40 => ?_
      obtain ⟨rfl, b40⟩ := hR40
      have hK := dk_below hK b40
      have hT := hT.below b40
      have hB3 := hB3.below b40 hB3.lt
      have hB4 := hB4.below b40 hB4.lt
      have hBi := hBi.below b40 hBi.lt
      have z40 := z39.below b40
      refine chainK 3 (cc rfl (p_not (g1 rfl rfl) (od rfl (fun _ => rfl)))
          (cc rfl (p_and g0 (od rfl id) (od rfl id))
          (cc rfl (p_move g0 (od rfl id)) cn))) (by kernel_rfl) s40 fun a41 w41 b41 s41 => ?_
      have z41 := z40.below b41
      have hK := dk_below hK b41
      have hT := hT.below b41
      have hB3 := hB3.below b41 hB3.lt
      have hB4 := hB4.below b41 hB4.lt
      have hBi := hBi.below b41 hBi.lt
      have s41 := s41.more 75 (y := .bool true) (s41.get 75 rfl)
      refine chainK 2 (cc rfl (p_move (g1 rfl rfl) (od rfl (fun _ => rfl)))
          (cc rfl (p_done (y := .val _) bd_48z (fun _ _ => rfl) (g1 rfl rfl)) cn)) (by kernel_rfl) s41 fun a42 w42 b42 s42 => ?_
      have z42 := z41.below b42
      have hK := dk_below hK b42
      have hT := hT.below b42
      have hB3 := hB3.below b42 hB3.lt
      have hB4 := hB4.below b42 hB4.lt
      have hBi := hBi.below b42 hBi.lt
      show wpList _ _ _ (_ :: _) _ _
      refine alloc_on (u := 48) (z := toC ⟨0, 0, 0, [], none⟩ (.slice none 0 0)) s42 (Eq.trans (s42.wanted (g1 rfl rfl) rfl) rfl) rfl (by decide) (bx_48 _ _ _ (s42.get 77 rfl)) (vv 4 rfl (vv 5 rfl (vv 75 rfl (vv 76 rfl vn)))) fun g2 a43 w43 hBg2 hg2 b43 s43 => ?_
      have hng2 : t.ob g2 = none := no_at hT hg2
      have hg2 := Nat.le_trans (Nat.le_of_lt (Nat.lt_of_le_of_lt hT.bT hT.tb.lt)) hg2
      have hK := dk_below hK b43
      have hT := hT.below b43
      have hB3 := hB3.below b43 hB3.lt
      have hB4 := hB4.below b43 hB4.lt
      have hBi := hBi.below b43 hBi.lt
      have z43 := z42.below b43
      have hO := objAt0 (B := w5.heap.size) (o := ⟨0, 0, 0, [], none⟩) rfl rfl hBg2 rfl
      show wpList _ _ _ (_ :: _) _ _
      refine callO [.tmp 76, .tmp 78] s43 (Eq.trans (s43.wanted (g1 rfl rfl) rfl) rfl) (fun _ _ => by kernel_rfl) rfl (by decide) (show Calls Try.prog 15 #[a43.tmps.getD 76 undef, a43.tmps.getD 78 undef] w43 _ from by rw [show a43.tmps.getD 76 undef = ptrV gT from s43.get 76 rfl, show a43.tmps.getD 78 undef = ptrV g2 from s43.get 78 rfl]; exact cAdd hT hO hg2 hng2 hA.ok (lenB_lt hL (by omega))) (vv 4 rfl (vv 5 rfl (vv 75 rfl vn))) fun v44 a44 w44 hR44 s44 => ?_
      obtain ⟨rfl, hno, _⟩ := hR44
      have b44 := hno rfl
      have hK := dk_below hK b44
      have hT := hT.below b44
      have hB3 := hB3.below b44 hB3.lt
      have hB4 := hB4.below b44 hB4.lt
      have hBi := hBi.below b44 hBi.lt
      have z44 := z43.below b44
      have s44 := s44.more 79 (y := .bool false) (s44.get 79 rfl)
      refine chainK 3 (cc rfl (p_not (g1 rfl rfl) (od rfl (fun _ => rfl)))
          (cc rfl (p_and g0 (od rfl id) (od rfl id))
          (cc rfl (p_move g0 (od rfl id)) cn))) (by kernel_rfl) s44 fun a45 w45 b45 s45 => ?_
      have z45 := z44.below b45
      have hK := dk_below hK b45
      have hT := hT.below b45
      have hB3 := hB3.below b45 hB3.lt
      have hB4 := hB4.below b45 hB4.lt
      have hBi := hBi.below b45 hBi.lt
      have s45 := s45.more 82 (y := .bool true) (s45.get 82 rfl)
      refine chainK 1 (cc rfl (p_move (g1 rfl rfl) (od rfl (fun _ => rfl))) cn) (by kernel_rfl) s45 fun a46 w46 b46 s46 => ?_
      have z46 := z45.below b46
      have hK := dk_below hK b46
      have hT := hT.below b46
      have hB3 := hB3.below b46 hB3.lt
      have hB4 := hB4.below b46 hB4.lt
      have hBi := hBi.below b46 hBi.lt
      show wpList _ _ _ (_ :: _) _ _
      refine callO [.tmp 83, .const (.int .u64 1099511627776)] s46 (Eq.trans (s46.wanted (g1 rfl rfl) rfl) rfl) (fun _ _ => by kernel_rfl) rfl (by decide) (show Calls Try.prog 17 #[a46.tmps.getD 83 undef, .int .u64 1099511627776] w46 _ from by rw [show a46.tmps.getD 83 undef = ptrV gT from s46.get 83 rfl]; exact cGet hT) (vv 4 rfl (vv 5 rfl (vv 82 rfl vn))) fun v47 a47 w47 hR47 s47 => ?_
      obtain ⟨rfl, b47⟩ := hR47
      have hK := dk_below hK b47
      have hT := hT.below b47
      have hB3 := hB3.below b47 hB3.lt
      have hB4 := hB4.below b47 hB4.lt
      have hBi := hBi.below b47 hBi.lt
      have z47 := z46.below b47
      have s47 := s47.more 84 (y := .val (.pointer none)) ((s47.get 84 rfl).trans (by rw [hA.far (by decide)]; rfl))
      refine chainK 3 (cc rfl (p_bin (g1 rfl rfl) (od rfl (fun _ => rfl)) (oc _) b_eqN)
          (cc rfl (p_and g0 (od rfl id) (od rfl id))
          (cc rfl (p_move g0 (od rfl id)) cn))) (by kernel_rfl) s47 fun a48 w48 b48 s48 => ?_
      have z48 := z47.below b48
      have hK := dk_below hK b48
      have hT := hT.below b48
      have hB3 := hB3.below b48 hB3.lt
      have hB4 := hB4.below b48 hB4.lt
      have hBi := hBi.below b48 hBi.lt
      have s48 := s48.more 87 (y := .bool true) (s48.get 87 rfl)
      refine chainK 1 (cc rfl (p_move (g1 rfl rfl) (od rfl (fun _ => rfl))) cn) (by kernel_rfl) s48 fun a49 w49 b49 s49 => ?_
      have z49 := z48.below b49
      have hK := dk_below hK b49
      have hT := hT.below b49
      have hB3 := hB3.below b49 hB3.lt
      have hB4 := hB4.below b49 hB4.lt
      have hBi := hBi.below b49 hBi.lt
      show wpList _ _ _ (_ :: _) _ _
      refine callO [.tmp 88, .const (.int .u64 1099511627776)] s49 (Eq.trans (s49.wanted (g1 rfl rfl) rfl) rfl) (fun _ _ => by kernel_rfl) rfl (by decide) (show Calls Try.prog 16 #[a49.tmps.getD 88 undef, .int .u64 1099511627776] w49 _ from by rw [show a49.tmps.getD 88 undef = ptrV gT from s49.get 88 rfl]; exact cRem0 hT (hA.far (by decide))) (vv 4 rfl (vv 5 rfl (vv 87 rfl vn))) fun v50 a50 w50 hR50 s50 => ?_
      obtain ⟨rfl, b50⟩ := hR50
      have hK := dk_below hK b50
      have hT := hT.below b50
      have hB3 := hB3.below b50 hB3.lt
      have hB4 := hB4.below b50 hB4.lt
      have hBi := hBi.below b50 hBi.lt
      have z50 := z49.below b50
      refine chainK 3 (cc rfl (p_lenV ln_49 (g1 rfl rfl) (od rfl (fun _ => rfl)))
          (cc rfl (p_bin (g1 rfl rfl) (od rfl id) (oc _) b_eql_3)
          (cc rfl (p_and g0 (od rfl id) (od rfl id)) cn))) (by kernel_rfl) s50 fun a51 w51 b51 s51 => ?_
      have z51 := z50.below b51
      have hK := dk_below hK b51
      have hT := hT.below b51
      have hB3 := hB3.below b51 hB3.lt
      have hB4 := hB4.below b51 hB4.lt
      have hBi := hBi.below b51 hBi.lt
      show wpList _ _ _ (_ :: _) _ _
      refine cells_on (vs := [.bool true]) s51 rfl rfl rfl (s51.get 4 rfl) ((s51.get 92 rfl).trans rfl) rfl hB4 (by simp) sz_4 (fun u hu => by rw [List.mem_singleton.1 hu]; rfl) (vv 4 rfl vn) fun a52 w52 hq52 gS s52 => ?_
      have hK := dk_grown hK gS (fun e => dk_blk hK hB4 (by injection e))
      have hB4 : Blk w52 g4 4 #[.bool true] := hq52
      have z52 := z51.grown gS (fun x hx e => absurd hg4 (Nat.not_le.2 (by injection e with e; rw [e]; exact hx)))
      refine wpList_done ?_
      exact wp_ret (ret_cM1 (fn := Try.f12) (R := fun v w' => v = .bool true ∧ Below w.heap.size w w') (v := .bool true) s52 4 rfl rfl lv_4 hB4 hK fun w' G => ⟨rfl, (z52.grown G (fun x hx e => absurd hDw (Nat.not_le.2 (by injection e with e; rw [e]; exact hx)))).to_below (fun _ _ h => h) (Nat.le_refl _)⟩)

set_option maxRecDepth 100000 in
theorem tableAll_lifted (os : Os) (started : os.Started) (H : Type) (enc : TypeId × Value → H) :
    ReturnsInHanded {} Try.checked os 12 .any (Rows.tableAllSpec.pre6 enc Try.prog Try.f12 Rows.tableAllRow.domain false) (Rows.tableAllSpec.post enc Try.prog Try.f12 false true false false) := by
  refine lifted_of (C := Try.checked) laidOut own started (by kernel_rfl) Try.func12 rfl Try.underlying4 (by kernel_rfl) rfl
    (fun ds hds => by match ds, hds with | [_, _], _ => rfl)
    (ChangeSpec.witness6 (enc := enc) (C := Try.checked) false ⟨#[], #[.slice none 0 0, .int .i64 0], []⟩ 8 (by kernel_rfl) (by kernel_rfl) (by kernel_rfl) (by kernel_rfl)) ?_
  intro w base args ds ps hval0 hA0 hlt
  have hval : ∀ (j : Nat) t v, Try.f12.params[j]? = some t → args[j]? = some v → Value.okWide Try.prog w .any base t v := hval0
  have hA : DataW.TrodAll enc Try.prog w 0 (fun _ => true) true Try.f12.params.toList args.toList ds ps := hA0
  rw [Try.params12] at hA hval
  obtain ⟨v0, vs0, d0, ds0, p0, q0, hargs, rfl, rfl, h0, r0⟩ := trodAll_cons hA
  obtain ⟨v1, vs1, d1, ds1, p1, q1, rfl, rfl, rfl, h1, r1⟩ := trodAll_cons r0
  obtain ⟨rfl, rfl, rfl⟩ := trodAll_nil r1
  obtain rfl : args = #[v0, v1] := by cases args; simp_all
  obtain ⟨x0, o0, s0⟩ := open_sl Try.underlying29 opens_u29 (hval 0 29 v0 rfl rfl) h0 (fun x hx => hlt x (List.mem_append_left _ hx))
  obtain ⟨x1, rfl, rfl, rfl, o1⟩ := open_int Try.underlying3 (hval 1 3 v1 rfl rfl) h1
  exact (tableAll_walk s0).mono fun e w' ⟨v, he, hv, hb⟩ => ⟨by rw [he, hv], hb⟩

set_option maxRecDepth 100000 in
theorem tableAll_facts : joinedFacts Try.pinned.checked.prog 12 Try.f12 Rows.tableAllSpec Rows.tableAllRow = true := by
  show joinedFacts Try.prog 12 Try.f12 Rows.tableAllSpec Rows.tableAllRow = true
  unfold joinedFacts
  rw [mayEnter_ok, liftsFinal_ok, make_ok]
  kernel_rfl
theorem tableAll_holds : Rows.TableAllSaid :=
  OpenClaim.holds_of_wide 12 Try.f12 rfl rfl rfl rfl rfl rfl rfl ⟨rfl, rfl, rfl, rfl, rfl⟩ rfl rfl rfl rfl rfl (by kernel_rfl) Try.func12 tableAll_facts
    (of_decide_eq_true (by kernel_rfl)) (by unfold Func.isWrapper; rw [if_neg (of_decide_eq_false (by kernel_rfl))]; exact ⟨rfl, rfl⟩)
    (fun os started H enc _ => tableAll_lifted os started H enc)
#print axioms tableAll_holds

end Go.Proofs.Ytbeeiecbbmiojaa.Y
