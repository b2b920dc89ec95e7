/- Ylabx: pack.Labels -/
import Derived.Test.YtihddficgpjgpaaYlabs
namespace Go.Proofs.Ytihddficgpjgpaa.Y
open Go.RowKit Go.ChangeShapes Go.WideShapes Go.ChangeAt

set_option maxRecDepth 100000 in
theorem f41 {bs : List Int} {n : Nat} (hB : Pk.Byt bs) (hm : bs.length ≤ 100000) (hn : n ≤ 1000) : Fn False Try.prog 41 [.by bs, .int .i64 (n : Int)] (.two (.one (Lay.sl rawL) (labsV bs n).1) (.int .i64 (labsV bs n).2)) := fn2 fun w F v0 v1 h0 h1 hF => by
  obtain ⟨i0, hi0, hz0, hz1, hz2⟩ := info_parts Try.info39s
  have hm0 := hm
  have hm : bs.length ≤ 1000000 := by omega
  go_enter Try.func41, Try.ntmps41
  refine wp_seq ?_
  refine flowC mixed (st0 (U := False) (N := 37) (e := [(0, true, .by bs), (1, true, .int .i64 (n : Int))]) (F := F) rfl rfl hF ⟨⟨rfl, h0⟩, ⟨⟨rfl, h1⟩, True.intro⟩⟩) (by kernel_rfl) (by kernel_rfl) (cc rfl (p_assign g0 (oc _))
      (cc rfl (p_assign g0 (oc _)) cn)) fun a1 w1 b1 s1 => ?_
  have z1 := b1
  refine wp_seq ?_
  refine wp_region_lit ?_
  refine chainK 1 (cc rfl (p_move g0 (od rfl id)) cn) (by kernel_rfl) (s1.keep (sc 0 rfl (sc 1 rfl (sc 4 rfl (sc 5 rfl sn))))) fun a2 w2 b2 s2 => ?_
  have z2 := z1.trans (b2.mono z1.size)
  show wpList _ _ _ (_ :: _) _ _
  refine new_on 8 s2 rfl rfl (by simp [Region.wanted]) (fun _ _ => by kernel_rfl) rfl (by decide) fun g a3 w3 rd hg0 b3 s3 => ?_
  have hgW := Nat.le_trans z2.size hg0
  have z3 := z2.trans (b3.mono z2.size)
  refine chainT (t := []) (cc rfl (p_assign g0 (od rfl id)) cn) (by kernel_rfl) s3 fun a4 w4 b4 s4 => wpList_done ?_
  have z4 := z3.trans (b4.mono z3.size)
  have rd := rd.below b4
  refine wp_seq ?_
  refine flowC mixed (s4.keep (sc 0 rfl (sc 1 rfl (sc 4 rfl (sc 5 rfl (sc 6 rfl sn)))))) (by kernel_rfl) (by kernel_rfl) (cc rfl (p_assign g0 (oc _)) cn) fun a5 w5 b5 s5 => ?_
  have z5 := z4.trans (b5.mono z4.size)
  have rd := rd.below b5
  refine wp_seq ?_
  refine wp_seq ?_
  refine flowC mixed (s5.keep (sc 0 rfl (sc 1 rfl (sc 4 rfl (sc 5 rfl (sc 6 rfl (sc 7 rfl sn))))))) (by kernel_rfl) (by kernel_rfl) (cc rfl (p_move g0 (od rfl id))
      (cc rfl (p_move g0 (od rfl id))
      (cc rfl (p_len ln_22 g0 (od rfl id))
      (cc rfl (p_bin g0 (od rfl id) (oc _) (inc_3 (by omega)))
      (cc rfl (p_min g0 (od rfl id) (od rfl id) mn_3)
      (cc rfl (p_move g0 (oc _)) cn)))))) fun a6 w6 b6 s6 => ?_
  have z6 := z5.trans (b6.mono z5.size)
  have rd := rd.below b6
  obtain ⟨M, hM⟩ : ∃ M, M = min n (bs.length + 1) := ⟨_, rfl⟩
  have s6 := s6.more 14 (y := .int .i64 (M : Int)) (int_as (s6.get 14 rfl) (by omega))
  refine wp_block ?_
  have hgB := rd.lt
  have hF1 : ∀ k : Cell, And2 F (AtB g) k → k.1 < w6.heap.size := s6.fok.lt
  have zB := z6
  refine wp_count M 15 (LBI w6 (And2 F (AtB g)) g n M bs) (fun _ _ _ ⟨_, _, _, _, hs⟩ => hs.get 15 rfl) ⟨_, [], (0, false), ⟨rd, LabsAt.nil _ _, rfl, rfl, only_refl _ _⟩, s6.to _ ⟨rfl, rfl, rfl, rfl, rfl, True.intro⟩⟩ fun i a7 w7 hi7 hI => ?_
  obtain ⟨v, q, s, ⟨rd, lv, heq, hlen, z7⟩, s7⟩ := hI
  refine wp_seq ?_
  refine flowC mixed (s7.keep (sc 1 rfl (sc 6 rfl (sc 7 rfl (sc 14 rfl (sc 15 rfl sn)))))) (by kernel_rfl) (by kernel_rfl) (cc rfl (p_bin g0 (od rfl id) (od rfl id) b_lss_3) cn) fun a8 w8 b8 s8 => ?_
  have z8 := only_trans z7 (only_of_below b8 (some g))
  have rd := rd.below b8
  have lv := lv.below b8
  refine wp_seq ?_
  refine s8.cond 16 rfl (fun h16 => ?_) (fun h16 => ?_)
  · -- true
    have hin : i < M := by simpa using h16
    rw [show M - i = (M - (i + 1)) + 1 by omega, labsP] at heq
    refine wp_skip ?_
    refine wp_seq ?_
    refine wp_block ?_
    refine wp_region_lit ?_
    refine chainK 2 (cc rfl (p_move g0 (od rfl id))
        (cc rfl (p_move g0 (od rfl id)) cn)) (by kernel_rfl) (s8.keep (sc 1 rfl (sc 6 rfl (sc 7 rfl (sc 14 rfl (sc 15 rfl sn)))))) fun a9 w9 b9 s9 => ?_
    have z9 := only_trans z8 (only_of_below b9 (some g))
    have rd := rd.below b9
    have lv := lv.below b9
    show wpList _ _ _ (_ :: _) _ _
    have q18 : a9.tmps.getD 18 undef = .pointer (some ⟨g, 0, none⟩) := s9.get 18 rfl
    refine lab_on [.tmp 18] s9 (fun _ => .inr rfl) (by simp [Region.wanted]) (fun _ _ => by kernel_rfl) rfl (by decide) (show Calls Try.prog 40 #[a9.tmps.getD 18 undef] w9 _ from by rw [q18]; exact cLab (k := s.1) (b := s.2) rd hB hm) fun u hu a10 w10 ou rd g10 s10 => ?_
    have lv := lv.grown g10 hgB
    have ou := own_mono ou z9.size
    have z10 := only_trans z9 g10
    refine chainK 1 (cc rfl (p_lit (exF hu) bs_46 g0 (od rfl id)) cn) (by kernel_rfl) s10 fun a11 w11 b11 s11 => ?_
    have z11 := only_trans z10 (only_of_below b11 (some g))
    have rd := rd.below b11
    have ou := own_below ou b11
    have lv := lv.below b11
    show wpList _ _ _ (_ :: _) _ _
    refine app_on (e2 := LBF g n M i) 17 20 id s11 rfl rfl (by decide) rfl Try.underlying46 hi0 hz0 hz1 hz2 rfl (by decide) lv.own (s11.get 17 rfl) rfl rfl hu (by unfold maxLen; omega) (by omega) z11.size (vv 15 rfl (vv 14 rfl (vv 6 rfl (vv 1 rfl vn)))) fun v2 a12 w12 ow2 g12 s12 => ?_
    have rd := rd_grownO rd g12 (fun x hx => Nat.lt_of_lt_of_le hgB (own_base lv.own hx))
    have z12 := grown_far z11 g12 (fun x hx => own_base lv.own hx)
    have lv := lv.app ou ow2 g12
    refine chainT (t := []) (cc rfl (p_assign g0 (od rfl id)) cn) (by kernel_rfl) s12 fun a13 w13 b13 s13 => wpList_done ?_
    have z13 := only_trans z12 (only_of_below b13 (some g))
    have rd := rd.below b13
    have lv := lv.below b13
    refine flowT (s13.keep (sc 1 rfl (sc 6 rfl (sc 7 rfl (sc 14 rfl (sc 15 rfl (sc 21 rfl sn))))))) (by kernel_rfl) (cc rfl (p_bin g0 (od rfl id) (oc _) (inc_3 (by omega)))
        (cc rfl (p_move g0 (od rfl id)) cn)) fun a14 w14 b14 s14 => ?_
    have z14 := only_trans z13 (only_of_below b14 (some g))
    have rd := rd.below b14
    have lv := lv.below b14
    exact ⟨hin, v2, _, _, ⟨rd, lv, by rw [List.map_append]; exact heq, by simp [hlen], z14⟩, s14.to _ ⟨rfl, rfl, rfl, rfl, rfl, True.intro⟩⟩
  · -- false
    have hin : ¬ i < M := by simpa using h16
    rw [show M - i = 0 by omega, labsP, hM] at heq
    refine wp_exit ?_
    refine wp_seq ?_
    refine wp_seq ?_
    have s8 := s8.more 7 (y := .one (Lay.sl rawL) (q.map (·.2))) (by rw [show _ = _ from s8.get 7 rfl]; exact lv.on hF1)
    cases hb : s.2
    · -- false
      refine wp_region_lit ?_
      refine chainK 1 (cc rfl (p_move g0 (od rfl id)) cn) (by kernel_rfl) (s8.keep (sc 1 rfl (sc 6 rfl (sc 7 rfl sn)))) fun a15 w15 b15 s15 => ?_
      have z15 := only_trans z8 (only_of_below b15 (some g))
      have rd := rd.below b15
      have lv := lv.below b15
      show wpList _ _ _ (_ :: _) _ _
      have q23 : a15.tmps.getD 23 undef = .pointer (some ⟨g, 0, none⟩) := s15.get 23 rfl
      refine rd_on [.tmp 23] s15 (fun _ => .inr rfl) (by simp [Region.wanted]) (fun _ _ => by kernel_rfl) rfl (by decide) (show Calls Try.prog 33 #[a15.tmps.getD 23 undef] w15 _ from by rw [q23]; exact cBad rd) fun a16 w16 rd g16 s16 => ?_
      have lv := lv.grown g16 hgB
      have z16 := only_trans z15 g16
      refine chainK 1 (cc rfl (p_move g0 (od rfl id)) cn) (by kernel_rfl) s16 fun a17 w17 b17 s17 => ?_
      have z17 := only_trans z16 (only_of_below b17 (some g))
      have rd := rd.below b17
      have lv := lv.below b17
      have s17 := s17.more 25 (y := .bool false) (bool_as (s17.get 25 rfl) hb)
      refine chainK 1 (cc rfl (p_move (g1 rfl rfl) (od rfl (fun _ => rfl))) cn) (by kernel_rfl) s17 fun a18 w18 b18 s18 => ?_
      have z18 := only_trans z17 (only_of_below b18 (some g))
      have rd := rd.below b18
      have lv := lv.below b18
      show wpList _ _ _ (_ :: _) _ _
      have q26 : a18.tmps.getD 26 undef = .pointer (some ⟨g, 0, none⟩) := s18.get 26 rfl
      refine rd_on [.tmp 26] s18 (fun _ => .inr rfl) (Eq.trans (s18.wanted (g1 rfl rfl) rfl) rfl) (fun _ _ => by kernel_rfl) rfl (by decide) (show Calls Try.prog 34 #[a18.tmps.getD 26 undef] w18 _ from by rw [q26]; exact cRest rd hm) fun a19 w19 rd g19 s19 => ?_
      have lv := lv.grown g19 hgB
      have z19 := only_trans z18 g19
      refine chainT (t := []) (cc rfl (p_bin (g1 rfl rfl) (od rfl id) (oc _) b_gtr_3)
          (cc rfl (p_or g0 (od rfl id) (od rfl id))
          (cc rfl (p_move g0 (od rfl id))
          (cc rfl (p_move (g1 rfl rfl) (od rfl (fun _ => rfl)))
          (cc rfl (p_move (g1 rfl rfl) (od rfl (fun _ => rfl)))
          (cc rfl (p_len ln_46 (g1 rfl rfl) (od rfl id))
          (cc rfl (p_bin (g1 rfl rfl) (od rfl id) (od rfl id) ne_3)
          (cc rfl (p_or g0 (od rfl id) (od rfl id)) cn)))))))) (by kernel_rfl) s19 fun a20 w20 b20 s20 => wpList_done ?_
      have z20 := only_trans z19 (only_of_below b20 (some g))
      have rd := rd.below b20
      have lv := lv.below b20
      refine s20.cond 35 rfl (fun h35 => ?_) (fun h35 => ?_)
      · -- true
        have hc : s.2 = true ∨ s.1 < bs.length ∨ (q.map (·.2)).length ≠ n := by have hle := rd.at_le; simp at h35 ⊢; simp [hb]; omega
        refine wp_seq ?_
        refine flowC mixed (s20.keep (sc 1 rfl (sc 6 rfl (sc 7 rfl sn)))) (by kernel_rfl) (by kernel_rfl) (cc rfl (p_assign g0 (oc _))
            (cc rfl (p_assign g0 (oc _)) cn)) fun a21 w21 b21 s21 => ?_
        have z21 := only_trans z20 (only_of_below b21 (some g))
        have rd := rd.below b21
        have lv := lv.below b21
        have s21 := s21.less (F' := F) (fun _ h => .inl h)
        have hE : labsE bs n = (q.map (·.2), s) := heq.symm
        have hX : labsV bs n = ([], 10) := by unfold labsV; rw [hE]; exact if_pos hc
        have s21 := s21.more 4 (y := .one (Lay.sl rawL) []) (nil_one (s21.get 4 rfl))
        rw [hX]
        exact wp_ret (ret_tmp2 (fn := Try.f41) s21 4 5 rfl rfl rfl (fun _ h => h) (zB.grown z21 zB.size fun k e => by cases e; exact hgW))
      · -- false
        have hc : ¬ (s.2 = true ∨ s.1 < bs.length ∨ (q.map (·.2)).length ≠ n) := by have hle := rd.at_le; simp at h35 ⊢; simp [hb]; omega
        refine wp_skip ?_
        refine wp_seq ?_
        refine flowC mixed (s20.keep (sc 1 rfl (sc 6 rfl (sc 7 rfl sn)))) (by kernel_rfl) (by kernel_rfl) (cc rfl (p_move g0 (od rfl id))
            (cc rfl (p_assign g0 (od rfl id))
            (cc rfl (p_assign g0 (oc _)) cn))) fun a22 w22 b22 s22 => ?_
        have z22 := only_trans z20 (only_of_below b22 (some g))
        have rd := rd.below b22
        have lv := lv.below b22
        have s22 := s22.less (F' := F) (fun _ h => .inl h)
        have hE : labsE bs n = (q.map (·.2), s) := heq.symm
        have hX : labsV bs n = (q.map (·.2), 0) := by unfold labsV; rw [hE]; exact if_neg hc
        rw [hX]
        exact wp_ret (ret_tmp2 (fn := Try.f41) s22 4 5 rfl rfl rfl (fun _ h => h) (zB.grown z22 zB.size fun k e => by cases e; exact hgW))
    · -- true
      refine wp_region_lit ?_
      refine chainK 1 (cc rfl (p_move g0 (od rfl id)) cn) (by kernel_rfl) (s8.keep (sc 1 rfl (sc 6 rfl (sc 7 rfl sn)))) fun a23 w23 b23 s23 => ?_
      have z23 := only_trans z8 (only_of_below b23 (some g))
      have rd := rd.below b23
      have lv := lv.below b23
      show wpList _ _ _ (_ :: _) _ _
      have q23 : a23.tmps.getD 23 undef = .pointer (some ⟨g, 0, none⟩) := s23.get 23 rfl
      refine rd_on [.tmp 23] s23 (fun _ => .inr rfl) (by simp [Region.wanted]) (fun _ _ => by kernel_rfl) rfl (by decide) (show Calls Try.prog 33 #[a23.tmps.getD 23 undef] w23 _ from by rw [q23]; exact cBad rd) fun a24 w24 rd g24 s24 => ?_
      have lv := lv.grown g24 hgB
      have z24 := only_trans z23 g24
      refine chainK 1 (cc rfl (p_move g0 (od rfl id)) cn) (by kernel_rfl) s24 fun a25 w25 b25 s25 => ?_
      have z25 := only_trans z24 (only_of_below b25 (some g))
      have rd := rd.below b25
      have lv := lv.below b25
      have s25 := s25.more 25 (y := .bool true) (bool_as (s25.get 25 rfl) hb)
      refine chainK 1 (cc rfl (p_move (g1 rfl rfl) (od rfl (fun _ => rfl))) cn) (by kernel_rfl) s25 fun a26 w26 b26 s26 => ?_
      have z26 := only_trans z25 (only_of_below b26 (some g))
      have rd := rd.below b26
      have lv := lv.below b26
      show wpList _ _ _ (_ :: _) _ _
      refine rd_off (.int .i64 0) s26 (Eq.trans (s26.wanted (g1 rfl rfl) rfl) rfl) rfl (by decide) fun a27 s27 => ?_
      have z27 := z26
      refine chainT (t := []) (cc rfl (p_bin (g1 rfl rfl) (od rfl id) (oc _) b_gtr_3)
          (cc rfl (p_or g0 (od rfl id) (od rfl id))
          (cc rfl (p_move g0 (od rfl id))
          (cc rfl (p_move (g1 rfl rfl) (od rfl (fun _ => rfl)))
          (cc rfl (p_move (g1 rfl rfl) (od rfl (fun _ => rfl)))
          (cc rfl (p_len ln_46 (g1 rfl rfl) (od rfl id))
          (cc rfl (p_bin (g1 rfl rfl) (od rfl id) (od rfl id) ne_3)
          (cc rfl (p_or g0 (od rfl id) (od rfl id)) cn)))))))) (by kernel_rfl) s27 fun a28 w28 b28 s28 => wpList_done ?_
      have z28 := only_trans z27 (only_of_below b28 (some g))
      have rd := rd.below b28
      have lv := lv.below b28
      refine s28.cond 35 rfl (fun h35 => ?_) (fun h35 => ?_)
      · -- true
        have hc : s.2 = true ∨ s.1 < bs.length ∨ (q.map (·.2)).length ≠ n := by exact .inl hb
        refine wp_seq ?_
        refine flowC mixed (s28.keep (sc 1 rfl (sc 6 rfl (sc 7 rfl sn)))) (by kernel_rfl) (by kernel_rfl) (cc rfl (p_assign g0 (oc _))
            (cc rfl (p_assign g0 (oc _)) cn)) fun a29 w29 b29 s29 => ?_
        have z29 := only_trans z28 (only_of_below b29 (some g))
        have rd := rd.below b29
        have lv := lv.below b29
        have s29 := s29.less (F' := F) (fun _ h => .inl h)
        have hE : labsE bs n = (q.map (·.2), s) := heq.symm
        have hX : labsV bs n = ([], 10) := by unfold labsV; rw [hE]; exact if_pos hc
        have s29 := s29.more 4 (y := .one (Lay.sl rawL) []) (nil_one (s29.get 4 rfl))
        rw [hX]
        exact wp_ret (ret_tmp2 (fn := Try.f41) s29 4 5 rfl rfl rfl (fun _ h => h) (zB.grown z29 zB.size fun k e => by cases e; exact hgW))
      · -- false
        have hc : ¬ (s.2 = true ∨ s.1 < bs.length ∨ (q.map (·.2)).length ≠ n) := by simp at h35
        refine wp_skip ?_
        refine wp_seq ?_
        refine flowC mixed (s28.keep (sc 1 rfl (sc 6 rfl (sc 7 rfl sn)))) (by kernel_rfl) (by kernel_rfl) (cc rfl (p_move g0 (od rfl id))
            (cc rfl (p_assign g0 (od rfl id))
            (cc rfl (p_assign g0 (oc _)) cn))) fun a30 w30 b30 s30 => ?_
        have z30 := only_trans z28 (only_of_below b30 (some g))
        have rd := rd.below b30
        have lv := lv.below b30
        have s30 := s30.less (F' := F) (fun _ h => .inl h)
        have hE : labsE bs n = (q.map (·.2), s) := heq.symm
        have hX : labsV bs n = (q.map (·.2), 0) := by unfold labsV; rw [hE]; exact if_neg hc
        rw [hX]
        exact wp_ret (ret_tmp2 (fn := Try.f41) s30 4 5 rfl rfl rfl (fun _ h => h) (zB.grown z30 zB.size fun k e => by cases e; exact hgW))

end Go.Proofs.Ytihddficgpjgpaa.Y
