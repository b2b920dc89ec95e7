/- Yrx: going over what is noted, of nothing too -/
import Derived.Test.YtbeeiecbbmiojaaYrw
namespace Go.Proofs.Ytbeeiecbbmiojaa.Y
open Go.RowKit Go.ChangeShapes Go.WideShapes Go.ChangeAt Go.ChangeMaps Go.MapKept

set_option maxRecDepth 100000 in
/-- insertionSort of nothing. -/
theorem cIns0 {w : World} : Calls Try.prog 78 #[.slice none 0 0, .int .i64 0, .int .i64 0] w fun e w' => e = .returned (.tuple #[]) ∧ Below w.heap.size w w' := by
  have z0 : OnlyB (fun _ => False) w w := OnlyB.refl _ _
  go_enter Try.func78, Try.ntmps78
  refine wp_seq ?_
  refine flowC mixed (st0 (U := False) (N := 49) (e := [(0, true, .val (.slice none 0 0)), (1, true, .val (.int .i64 0)), (2, true, .val (.int .i64 0))]) (F := noF) rfl rfl (fok_no _ _) ⟨⟨rfl, rfl⟩, ⟨⟨rfl, rfl⟩, ⟨⟨rfl, rfl⟩, True.intro⟩⟩⟩) (by kernel_rfl) (by kernel_rfl) (cc rfl (p_move g0 (od rfl id))
      (cc rfl (p_binC (m' := ((0 + 1 : Nat) : Int)) (fun _ => by rw [IntKind.wrap_i64]; omega) g0 (od rfl id) (oc _) b_add_3)
      (cc rfl (p_assign g0 (od rfl id)) cn))) fun a1 w1 b1 s1 => ?_
  have z1 := z0.below b1
  refine wp_block ?_
  refine wp_loopK (fun _ ac wr => OnlyB (fun _ => False) w wr ∧ StE False 49 [(0, true, .val (.slice none 0 0)), (1, true, .val (.int .i64 0)), (2, true, .val (.int .i64 0)), (6, true, .int .i64 ((0 + 1 : Nat) : Int))] noF ac wr) 0 ⟨z1, s1.to _ ⟨rfl, rfl, rfl, rfl, True.intro⟩⟩ fun k a2 w2 hJ => ?_
  obtain ⟨z2, s2⟩ := hJ
  refine wp_seq ?_
  refine wp_seq ?_
  refine flowC mixed (s2.keep (sc 0 rfl (sc 1 rfl (sc 2 rfl (sc 6 rfl sn))))) (by kernel_rfl) (by kernel_rfl) (cc rfl (p_move g0 (od rfl id))
      (cc rfl (p_move g0 (od rfl id))
      (cc rfl (p_bin g0 (od rfl id) (od rfl id) b_lss_3) cn))) fun a3 w3 b3 s3 => ?_
  have z3 := z2.below b3
  refine s3.cond 12 rfl (fun h => absurd h (by simp)) fun _ => ?_
  refine wp_exit ?_
  exact end_n (fn := Try.f78) (R := fun w' => Below w.heap.size w w') s3 rfl (z3.to_below (fun _ _ h => h) (Nat.le_refl _))
set_option maxRecDepth 100000 in
/-- pdqsort of nothing. -/
theorem cPdq0 {w : World} {lim : Int} : Calls Try.prog 70 #[.slice none 0 0, .int .i64 0, .int .i64 0, .int .i64 lim] w fun e w' => e = .returned (.tuple #[]) ∧ Below w.heap.size w w' := by
  have z0 : OnlyB (fun _ => False) w w := OnlyB.refl _ _
  go_enter Try.func70, Try.ntmps70
  refine wp_seq ?_
  refine flowC mixed (st0 (U := False) (N := 134) (e := [(0, true, .val (.slice none 0 0)), (1, true, .val (.int .i64 0)), (2, true, .val (.int .i64 0)), (3, true, .val (.int .i64 lim))]) (F := noF) rfl rfl (fok_no _ _) ⟨⟨rfl, rfl⟩, ⟨⟨rfl, rfl⟩, ⟨⟨rfl, rfl⟩, ⟨⟨rfl, rfl⟩, True.intro⟩⟩⟩⟩) (by kernel_rfl) (by kernel_rfl) (cc rfl (p_assign g0 (oc _)) cn) fun a1 w1 b1 s1 => ?_
  have z1 := z0.below b1
  refine wp_seq ?_
  refine flowC mixed (s1.keep (sc 0 rfl (sc 1 rfl (sc 2 rfl (sc 3 rfl (sc 8 rfl sn)))))) (by kernel_rfl) (by kernel_rfl) (cc rfl (p_assign g0 (oc _)) cn) fun a2 w2 b2 s2 => ?_
  have z2 := z1.below b2
  refine wp_block ?_
  refine wp_loopK (fun _ ac wr => OnlyB (fun _ => False) w wr ∧ StE False 134 [(0, true, .val (.slice none 0 0)), (1, true, .val (.int .i64 0)), (2, true, .val (.int .i64 0)), (3, true, .int .i64 lim), (8, true, .bool true), (9, true, .bool true)] noF ac wr) 0 ⟨z2, s2.to _ ⟨rfl, rfl, rfl, rfl, rfl, rfl, True.intro⟩⟩ fun k a3 w3 hJ => ?_
  obtain ⟨z3, s3⟩ := hJ
  refine wp_block ?_
  refine wp_seq ?_
  refine flowC mixed (s3.keep (sc 0 rfl (sc 1 rfl (sc 2 rfl (sc 3 rfl (sc 8 rfl (sc 9 rfl sn))))))) (by kernel_rfl) (by kernel_rfl) (cc rfl (p_move g0 (od rfl id))
      (cc rfl (p_move g0 (od rfl id))
      (cc rfl (p_bin g0 (od rfl id) (od rfl id) b_sub_3)
      (cc rfl (p_assign g0 (od rfl id)) cn)))) fun a4 w4 b4 s4 => ?_
  have z4 := z3.below b4
  refine wp_seq ?_
  refine wp_seq ?_
  refine flowC mixed (s4.keep (sc 0 rfl (sc 1 rfl (sc 2 rfl (sc 3 rfl (sc 8 rfl (sc 9 rfl (sc 10 rfl (sc 19 rfl (sc 20 rfl (sc 21 rfl sn))))))))))) (by kernel_rfl) (by kernel_rfl) (cc rfl (p_move g0 (od rfl id))
      (cc rfl (p_bin g0 (od rfl id) (oc _) b_leq_3) cn)) fun a5 w5 b5 s5 => ?_
  have z5 := z4.below b5
  refine s5.cond 23 rfl (fun _ => ?_) (fun h => absurd h (by simp [IntKind.wrap_i64]))
  refine wp_seq ?_
  refine wp_region_lit ?_
  refine with_st (s5.keep (sc 0 rfl (sc 1 rfl (sc 2 rfl (sc 3 rfl (sc 8 rfl (sc 9 rfl (sc 10 rfl (sc 19 rfl (sc 20 rfl (sc 21 rfl (sc 22 rfl (sc 23 rfl sn))))))))))))) fun s5 => ?_
  refine chainK 3 (cc rfl (p_move g0 (od rfl id))
      (cc rfl (p_move g0 (od rfl id))
      (cc rfl (p_move g0 (od rfl id)) cn))) (by kernel_rfl) s5 fun a6 w6 b6 s6 => ?_
  have z6 := z5.below b6
  show wpList _ _ _ (_ :: _) _ _
  refine callN (R := fun w' => Below w6.heap.size w6 w') [.tmp 24, .tmp 25, .tmp 26] [.slice none 0 0, .int .i64 0, .int .i64 0] s6 (by simp [Region.wanted]) (fun _ _ => by kernel_rfl) rfl (by decide) (ac (s6.get 24 rfl) (ac (s6.get 25 rfl) (ac (s6.get 26 rfl) an0))) (cIns0) vn fun v7 a7 w7 hR7 s7 => ?_
  have b7 := hR7
  have z7 := z6.below b7
  refine wpList_done ?_
  exact wp_ret (ret_n (fn := Try.f70) (R := fun w' => Below w.heap.size w w') s7 rfl (z7.to_below (fun _ _ h => h) (Nat.le_refl _)))
set_option maxRecDepth 100000 in
/-- slices.Sort of nothing. -/
theorem cSort0 {w : World} : Calls Try.prog 56 #[.slice none 0 0] w fun e w' => e = .returned (.tuple #[]) ∧ Below w.heap.size w w' := by
  have z0 : OnlyB (fun _ => False) w w := OnlyB.refl _ _
  go_enter Try.func56, Try.ntmps56
  refine wp_seq ?_
  refine flowC mixed (st0 (U := False) (N := 11) (e := [(0, true, .val (.slice none 0 0))]) (F := noF) rfl rfl (fok_no _ _) ⟨⟨rfl, rfl⟩, True.intro⟩) (by kernel_rfl) (by kernel_rfl) (cc rfl (p_move g0 (od rfl id))
      (cc rfl (p_lenD g0 (od rfl id))
      (cc rfl (p_assign g0 (od rfl id)) cn))) fun a1 w1 b1 s1 => ?_
  have z1 := z0.below b1
  refine wp_region_lit ?_
  refine with_st (s1.keep (sc 0 rfl (sc 2 rfl sn))) fun s1 => ?_
  refine chainK 4 (cc rfl (p_move g0 (od rfl id))
      (cc rfl (p_move g0 (od rfl id))
      (cc rfl (p_move g0 (od rfl id))
      (cc rfl (p_conv g0 (od rfl id) (cv355 (by omega))) cn)))) (by kernel_rfl) s1 fun a2 w2 b2 s2 => ?_
  have z2 := z1.below b2
  show wpList _ _ _ (_ :: _) _ _
  refine callR (R := fun v w' => ∃ L : Nat, v = .int .i64 (L : Int) ∧ (1 ≤ 0 → 2 ^ L ≤ 2 * 0) ∧ L ≤ 64 ∧ Below w2.heap.size w2 w') [.tmp 8] [.int .u64 ((0 : Nat) : Int)] s2 (by simp [Region.wanted]) (fun _ _ => by kernel_rfl) rfl (by decide) (ac (s2.get 8 rfl) an0) (cLenU (x := 0) (by omega)) (vv 5 rfl (vv 6 rfl vn)) fun v3 a3 w3 hR3 s3 => ?_
  obtain ⟨L, e3, _, _, hb3⟩ := hR3
  have z3 := z2.below hb3
  have s3 := s3.more 9 (y := .int .i64 (L : Int)) ((s3.get 9 rfl).trans e3)
  show wpList _ _ _ (_ :: _) _ _
  refine callN (R := fun w' => Below w3.heap.size w3 w') [.tmp 5, .const (.int .i64 0), .tmp 6, .tmp 9] [.slice none 0 0, .int .i64 0, .int .i64 ((0 : Nat) : Int), .int .i64 (L : Int)] s3 (by simp [Region.wanted]) (fun _ _ => by kernel_rfl) rfl (by decide) (ac (s3.get 5 rfl) (ac rfl (ac (s3.get 6 rfl) (ac (s3.get 9 rfl) an0)))) (cPdq0) vn fun v4 a4 w4 hR4 s4 => ?_
  have b4 := hR4
  have z4 := z3.below b4
  refine wpList_done ?_
  exact end_n (fn := Try.f56) (R := fun w' => Below w.heap.size w w') s4 rfl (z4.to_below (fun _ _ h => h) (Nat.le_refl _))
set_option maxRecDepth 100000 in
set_option maxHeartbeats 1600000 in
/-- (*Table).All goes over nothing. -/
theorem iAll0 {w : World} {B gT gM : Nat} {t : Tab} {kv : Nat → Value} {E : Nat → Prop} (hT : TabAt w B gT gM t kv) (he : t.tm = []) : Iter Try.prog 37 #[ptrV gT] #[] ptrV ([] : List Nat) E w := by
  intro l J Jx W hW hJ hJx hY h0
  show Calls Try.prog 37 #[ptrV gT, .func (.yield l) #[] #[]] W _
  have z0 : OnlyB (fun _ => False) W W := OnlyB.refl _ _
  have hlen0 : t.tm.length ≤ 100000 := by rw [he]; exact Nat.zero_le _
  go_enter Try.func37, Try.ntmps37
  have hlt0 : w.heap.size ≤ W.heap.size := hW.size
  have hB1 : Blk W gT 104 #[.map (some gM)] := hT.tb.below hW hT.tb.lt
  have hM : MapAt W gM .u64 t.vals := hT.mp.below hW
  have hT1 := hT.tb.lt
  have hM1 := hT.mp.lt
  obtain ⟨i0, hi0, hz0, hz1, hz2⟩ := info_parts Try.info28
  refine wp_seq ?_
  refine flowC mixed (st0 (U := False) (N := 45) (e := [(0, true, .val (ptrV gT)), (1, true, .val (.func (.yield l) #[] #[]))]) (F := noF) rfl rfl (fok_no _ _) ⟨⟨rfl, rfl⟩, ⟨rfl, rfl⟩, True.intro⟩) (by kernel_rfl) (by kernel_rfl) (cc rfl (p_assign g0 (oc _)) cn) fun a1 w1 b1 s1 => ?_
  have z1 := z0.below b1
  have hB1 := hB1.below b1 hB1.lt
  have hM := hM.below b1
  refine wp_seq ?_
  refine wp_seq ?_
  have s1 := s1.more 0 (y := .tab gT gM 104 t.vals) (⟨(s1.get 0 rfl), hB1, hM, fun _ h => h, fun _ h => h⟩)
  refine wp_region_lit ?_
  refine with_st (s1.keep (sc 0 rfl (sc 1 rfl (sc 4 rfl sn)))) fun s1 => ?_
  refine chainK 4 (cc rfl (p_move g0 (od rfl id))
      (cc rfl (p_nilT g0 (od rfl id))
      (cc rfl (p_faT fa_104_0 g0 (od rfl id))
      (cc rfl (p_ldT ld_102 g0 (od rfl id)) cn)))) (by kernel_rfl) s1 fun a2 w2 b2 s2 => ?_
  have z2 := z1.below b2
  have hB1 := hB1.below b2 hB1.lt
  have hM := hM.below b2
  show wpList _ _ _ (_ :: _) _ _
  have s2 := s2.more 0 (y := .val (ptrV gT)) (s2.get 0 rfl).1
  refine range_on s2 rfl rfl (by decide) rfl Try.underlying102 (s2.get 12 rfl).1 hM (vv 0 rfl (vv 1 rfl (vv 4 rfl vn))) fun r a3 w3 hI hrW b3 s3 => ?_
  have hrW := Nat.le_trans z2.size hrW
  have hB1 := hB1.below b3 hB1.lt
  have hM := hM.below b3
  have z3 := z2.below b3
  refine wpList_done ?_
  refine wp_block ?_
  refine wp_loopK (fun k ac wr => ∃ todo names v last, k = todo.length ∧ IterAt wr r gM .u64 t.vals todo last ∧ (names ++ todo).Perm (t.tm.map (·.1)) ∧ wr.ownsRow W.heap.size 28 1 v names.length (names.flatMap kE) ∧ Blk wr gT 104 #[.map (some gM)] ∧ MapAt wr gM .u64 t.vals ∧ (names = [] → v = .slice none 0 0) ∧ OnlyB (fun _ => False) W wr ∧ StE False 45 [(0, true, .val (ptrV gT)), (1, true, .val (.func (.yield l) #[] #[])), (4, true, .val v), (13, true, .val (.pointer (some ⟨r, 0, none⟩)))] noF ac wr) t.tm.length ⟨t.tm.map (·.1), [], .slice none 0 0, none, by simp, by rw [← vals_keys]; exact hI, List.Perm.refl _, ⟨rfl, .inl ⟨rfl, rfl⟩⟩, hB1, hM, (fun _ => rfl), z3, s3.to _ ⟨rfl, rfl, rfl, rfl, True.intro⟩⟩ fun k a4 w4 hJ1 => ?_
  obtain ⟨todo, names, v, last, rfl, hI, hP, hu, hB1, hM, hnv, z4, s4⟩ := hJ1
  have hlen : names.length + todo.length = t.tm.length := by have := hP.length_eq; simpa using this
  refine wp_seq ?_
  have hIr := (hI.row hu).2
  refine wp_region_lit ?_
  show wpList _ _ _ (_ :: _) _ _
  refine next_on s4 rfl rfl (by decide) rfl (s4.get 13 rfl) hI (vv 0 rfl (vv 1 rfl (vv 4 rfl (vv 13 rfl vn)))) (fun a5 htd s5 => ?_) (fun x vx todo2 a5 w5 hpt hxl hI gI s5 => ?_)
  · -- done
    subst htd
    refine chainK 1 (cc rfl (p_extT (i := 0) (v := .bool false) rfl g0 (od rfl id)) cn) (by kernel_rfl) s5 fun a6 w6 b6 s6 => ?_
    have z6 := z4.below b6
    have hB1 := hB1.below b6 hB1.lt
    have hM := hM.below b6
    have hI := hI.below b6
    have hu := own_below hu b6
    refine wpList_done ?_
    refine wp_seq ?_
    refine s6.cond 15 rfl (fun h => absurd h (by simp)) fun _ => ?_
    refine wp_exit ?_
    refine wp_seq ?_
    rw [List.append_nil] at hP
    obtain rfl : names = [] := by rw [he] at hP; exact hP.eq_nil
    obtain rfl := hnv rfl
    have hJq := hJ [] W w6 h0 (z6.to_below (fun _ _ h => h) (Nat.le_refl _))
    have hsz := z6.size
    refine wp_region_lit ?_
    refine with_st (s6.keep (sc 0 rfl (sc 1 rfl (sc 4 rfl (sc 13 rfl sn))))) fun s6 => ?_
    refine chainK 1 (cc rfl (p_move g0 (od rfl id)) cn) (by kernel_rfl) s6 fun a7 w7 b7 s7 => ?_
    have z7 := z6.below b7
    have hJq := hJ _ _ _ hJq (b7.mono hsz)
    have hsz := Nat.le_trans hsz b7.size
    show wpList _ _ _ (_ :: _) _ _
    refine callN (R := fun w' => Below w7.heap.size w7 w') [.tmp 22] [.slice none 0 0] s7 (by simp [Region.wanted]) (fun _ _ => by kernel_rfl) rfl (by decide) (ac (s7.get 22 rfl) an0) (cSort0) (vv 0 rfl (vv 1 rfl (vv 4 rfl vn))) fun v8 a8 w8 hR8 s8 => ?_
    have b8 := hR8
    have hJq := hJ _ _ _ hJq (b8.mono hsz)
    have hsz := Nat.le_trans hsz b8.size
    have z8 := z7.below b8
    refine wpList_done ?_
    refine wp_seq ?_
    refine flowC mixed (s8.keep (sc 0 rfl (sc 1 rfl (sc 4 rfl sn)))) (by kernel_rfl) (by kernel_rfl) (cc rfl (p_move g0 (od rfl id))
        (cc rfl (p_lenD g0 (od rfl id))
        (cc rfl (p_move g0 (oc _)) cn))) fun a9 w9 b9 s9 => ?_
    have z9 := z8.below b9
    have hJq := hJ _ _ _ hJq (b9.mono hsz)
    have hsz := Nat.le_trans hsz b9.size
    refine wp_block ?_
    refine wp_loopK (fun _ ac wr => J [] wr ∧ Below0 W wr ∧ StE False 45 [(0, true, .val (ptrV gT)), (1, true, .val (.func (.yield l) #[] #[])), (24, true, .val (.slice none 0 0)), (25, true, .int .i64 ((0 : Nat) : Int)), (26, true, .int .i64 0)] noF ac wr) 0 ⟨hJq, hsz, s9.to _ ⟨rfl, rfl, rfl, rfl, rfl, True.intro⟩⟩ fun k a10 w10 hJ2 => ?_
    obtain ⟨hJq, hsz, s10⟩ := hJ2
    refine wp_seq ?_
    refine flowC mixed (s10.keep (sc 0 rfl (sc 1 rfl (sc 24 rfl (sc 25 rfl (sc 26 rfl sn)))))) (by kernel_rfl) (by kernel_rfl) (cc rfl (p_bin g0 (od rfl id) (od rfl id) b_lss_3) cn) fun a11 w11 b11 s11 => ?_
    skip
    have hJq := hJ _ _ _ hJq (b11.mono hsz)
    have hsz := Nat.le_trans hsz b11.size
    refine wp_seq ?_
    refine s11.cond 27 rfl (fun h => absurd h (by simp)) fun _ => ?_
    refine wp_exit ?_
    exact end_any (fn := Try.f37) (R := fun e W' => (∃ v, e = .returned v) ∧ (J [] W' ∨ ∃ pre, pre <+: [] ∧ Jx pre W')) s11 rfl ⟨⟨_, rfl⟩, .inl hJq⟩
  · -- more
    have hz5 : OnlyB (fun _ => False) W w5 := z4.grown gI (fun x h1 e => absurd (Option.some.inj e) (by omega))
    have hB1 := hB1.grown gI (fun e => absurd (Option.some.inj e) (by omega))
    have hM := hM.grown gI (fun e => absurd (Option.some.inj e) (by omega))
    have hu := own_iter hu gI hIr
    refine chainK 1 (cc rfl (p_extT (i := 0) (v := .bool true) rfl g0 (od rfl id)) cn) (by kernel_rfl) s5 fun a12 w12 b12 s12 => ?_
    have z12 := hz5.below b12
    have hB1 := hB1.below b12 hB1.lt
    have hM := hM.below b12
    have hI := hI.below b12
    have hu := own_below hu b12
    refine wpList_done ?_
    refine wp_seq ?_
    refine s12.cond 15 rfl (fun _ => ?_) (fun h => absurd h (by simp))
    refine wp_skip ?_
    refine wp_block ?_
    refine wp_seq ?_
    refine wp_region_lit ?_
    refine with_st (s12.keep (sc 0 rfl (sc 1 rfl (sc 4 rfl (sc 13 rfl (sc 14 rfl (sc 15 rfl sn))))))) fun s12 => ?_
    show wpList _ _ _ (_ :: _) _ _
    refine entry_on s12 rfl rfl (by decide) rfl (s12.get 13 rfl) hI (vv 0 rfl (vv 1 rfl (vv 4 rfl (vv 13 rfl vn)))) fun a13 s13 => ?_
    refine chainK 2 (cc rfl (p_extT (i := 0) (v := .int .u64 x) rfl g0 (od rfl id))
        (cc rfl (p_assign g0 (od rfl id)) cn)) (by kernel_rfl) s13 fun a14 w14 b14 s14 => ?_
    have z14 := z12.below b14
    have hB1 := hB1.below b14 hB1.lt
    have hM := hM.below b14
    have hI := hI.below b14
    have hu := own_below hu b14
    refine wpList_done ?_
    refine wp_region_lit ?_
    refine with_st (s14.keep (sc 0 rfl (sc 1 rfl (sc 4 rfl (sc 5 rfl (sc 13 rfl (sc 16 rfl (sc 17 rfl sn)))))))) fun s14 => ?_
    refine chainK 2 (cc rfl (p_move g0 (od rfl id))
        (cc rfl (p_move g0 (od rfl id)) cn)) (by kernel_rfl) s14 fun a15 w15 b15 s15 => ?_
    have z15 := z14.below b15
    have hB1 := hB1.below b15 hB1.lt
    have hM := hM.below b15
    have hI := hI.below b15
    have hu := own_below hu b15
    show wpList _ _ _ (_ :: _) _ _
    refine lit_on (u := 28) (z := #[.int .u64 x]) s15 (by simp [Region.wanted]) rfl (by decide) (bs_29 _ _ (s15.get 19 rfl)) (vv 0 rfl (vv 1 rfl (vv 13 rfl (vv 18 rfl vn)))) fun gl a16 w16 hlt hgl b16 s16 => ?_
    have hB1 := hB1.below b16 hB1.lt
    have hM := hM.below b16
    have hI := hI.below b16
    have hu := own_below hu b16
    have z16 := z15.below b16
    show wpList _ _ _ (_ :: _) _ _
    have hnr := hI.row hu
    have hbx : ∀ q, v.ownBlock = some q → W.heap.size ≤ q := fun q hq => (own_get hu hq).1
    refine app_on (cs := kE x) s16 rfl rfl (by decide) rfl Try.underlying29 hi0 hz0 hz1 hz2 rfl (by decide) hu (s16.get 18 rfl) (s16.get 20 rfl) hlt rfl (fun u hu => by rw [List.mem_singleton.1 hu]; rfl) (by have := hpt.length_eq; simp at this; unfold maxLen; omega) (by have := hpt.length_eq; simp at this; omega) z16.size (vv 0 rfl (vv 1 rfl (vv 13 rfl vn))) fun v2 a17 w17 hu gA _ s17 => ?_
    have hu : World.ownsRow w17 W.heap.size 28 1 v2 (names ++ [x]).length ((names ++ [x]).flatMap kE) := by rw [List.length_append, List.flatMap_append]; exact hu
    have hI := hI.grown gA hnr.1 hnr.2
    have hB1 := hB1.grown gA (fun e => absurd (hbx gT e.symm) (by omega))
    have hM := hM.grown gA (fun e => absurd (hbx gM e) (by omega))
    have z17 := z16.grown gA (fun q h1 e => absurd (hbx q e) (by omega))
    refine chainK 1 (cc rfl (p_assign g0 (od rfl id)) cn) (by kernel_rfl) s17 fun a18 w18 b18 s18 => ?_
    have z18 := z17.below b18
    have hB1 := hB1.below b18 hB1.lt
    have hM := hM.below b18
    have hI := hI.below b18
    have hu := own_below hu b18
    refine wpList_done ?_
    exact ⟨todo2.length, by rw [hpt.length_eq, List.length_cons]; omega, todo2, names ++ [x], v2, _, rfl, hI, (by simpa using (List.Perm.append_left names hpt).symm.trans hP), hu, hB1, hM, (fun e => absurd e (by simp)), z18, s18.to _ ⟨rfl, rfl, rfl, rfl, True.intro⟩⟩
/-- Going over what is noted. -/
theorem iAllR {w : World} {B gT gM : Nat} {t : Tab} {kv : Nat → Value} {mm : Noted} {ns : List Int} {E : Nat → Prop} (hT : TabAt w B gT gM t kv) (hI : RInv t mm) (hns : ns.Perm (t.tm.map (·.1))) (hrise : ns.Pairwise (· < ·)) (hE : ∀ g, E g → g < w.heap.size ∧ g ≠ gT ∧ g ≠ gM) : Iter Try.prog 37 #[ptrV gT] #[] ptrV (ns.map (lookG t)) E w := by
  by_cases he : t.tm = []
  · have : ns = [] := by rw [he] at hns; exact hns.eq_nil
    subst this
    exact iAll0 hT he
  · exact iAll hT hns hrise he (by rw [hI.len]; have := hI.le16; omega) hE

end Go.Proofs.Ytbeeiecbbmiojaa.Y
