/- Ylabw: labels of readers -/
import Derived.Test.YtihddficgpjgpaaYlabr
namespace Go.Proofs.Ytihddficgpjgpaa.Y
open Go.RowKit Go.ChangeShapes Go.WideShapes Go.ChangeAt

theorem Try.info90 : (Try.prog.info? 90).map (fun i => (i.zero, i.size, i.bytes)) = some (some (.agg #[.int .u32 0, .int .i64 0]), 2, 16) := by kernel_rfl
theorem own_grown3 {w w' : World} {B E k n g : Nat} {v : Value} {xs : List Value} (h : w.ownsRow B E k v n xs) (hg : w.grownBy w' (some g)) (hne : some g ≠ v.ownBlock) : w'.ownsRow B E k v n xs := h.kept hg (.inr fun e => hne e.symm)
set_option maxRecDepth 100000 in
set_option maxHeartbeats 1600000 in
/-- A reader's next label. -/
theorem cLab {w : World} {g : Nat} {bs : List Int} {k : Nat} {b : Bool} (rd : Pk.RdAt w g bs k b) (hB : Pk.Byt bs) (hm : bs.length ≤ 1000000) : Calls Try.prog 40 #[.pointer (some ⟨g, 0, none⟩)] w fun e w' => ∃ v, e = .returned (.agg #[.int .i64 (labX bs (k, b)).1.d, v]) ∧ w'.ownsRow w.heap.size 90 2 v (labX bs (k, b)).1.ps.length ((labX bs (k, b)).1.ps.flatMap prE) ∧ Pk.RdAt w' g bs (labX bs (k, b)).2.1 (labX bs (k, b)).2.2 ∧ w.grownBy w' (some g) := by
  have hg := rd.lt
  obtain ⟨i0, hi0, hz0, hz1, hz2⟩ := info_parts Try.info90
  go_enter Try.func40, Try.ntmps40
  refine wp_seq ?_
  refine wp_region_lit ?_
  show wpList _ _ _ (_ :: _) _ _
  refine with_st (st0 (U := False) (N := 52) (e := [(0, true, .val (.pointer (some ⟨g, 0, none⟩)))]) (F := AtB g) rfl rfl (fok_at hg) ⟨⟨rfl, rfl⟩, True.intro⟩) fun s0 => ?_
  refine alloc_on (u := 39) (z := #[.int .i64 0, .slice none 0 0]) id s0 rfl (by decide) rfl (fun ev w => al_39 ev w) fun g2 a1 w1 k2 hg20 b1 s1 => ?_
  have hg2 := Nat.le_trans (Nat.le_refl _) hg20
  have z1 := only_of_below b1 (some g)
  have rd := rd.below b1
  refine wpList_done ?_
  refine wp_seq ?_
  refine wp_region_lit ?_
  refine chainK 1 (cc rfl (p_move g0 (od rfl id)) cn) (by kernel_rfl) (s1.keep (sc 0 rfl (sc 2 rfl sn))) fun a2 w2 b2 s2 => ?_
  have z2 := only_trans z1 (only_of_below b2 (some g))
  have rd := rd.below b2
  have k2 := k2.below b2 k2.lt
  show wpList _ _ _ (_ :: _) _ _
  have q7 : a2.tmps.getD 7 undef = .pointer (some ⟨g, 0, none⟩) := s2.get 7 rfl
  refine rd_on [.tmp 7, .const (.int .i64 1)] s2 (fun _ => rfl) (by simp [Region.wanted]) (fun _ _ => by kernel_rfl) rfl (by decide) (show Calls Try.prog 32 #[a2.tmps.getD 7 undef, .int .i64 1] w2 _ from by rw [q7]; exact cNumS (s := (k, b)) rd hB hm (n := 1) (by decide) (by decide)) fun a3 w3 rd g3 s3 => ?_
  have k2 := k2.grown g3 (by simp; omega)
  have z3 := only_trans z2 g3
  refine chainK 2 (cc rfl (p_cvE (n' := (nx bs (k, b) 1).1) (by have := nx1 hB (k, b); rw [IntKind.wrap_i64]; omega) g0 (od rfl id) cv_23_3)
      (cc rfl (p_bd39 g0 (od rfl id)) cn)) (by kernel_rfl) s3 fun a4 w4 b4 s4 => ?_
  have z4 := only_trans z3 (only_of_below b4 (some g))
  have rd := rd.below b4
  have k2 := k2.below b4 k2.lt
  show wpList _ _ _ (_ :: _) _ _
  refine alloc_on (u := 39) (z := #[.int .i64 0, .slice none 0 0]) id s4 rfl (by decide) rfl (fun ev w => al_39 ev w) fun g3 a5 w5 k3 hg30 b5 s5 => ?_
  have hg2g3 : g2 < g3 := Nat.lt_of_lt_of_le k2.lt hg30
  have hg3 := Nat.le_trans z4.size hg30
  have z5 := only_trans z4 (only_of_below b5 (some g))
  have rd := rd.below b5
  have k2 := k2.below b5 k2.lt
  show wpList _ _ _ (_ :: _) _ _
  refine store_on (cs := #[.int .i64 (nx bs (k, b) 1).1, .slice none 0 0]) 3 10 s5 rfl rfl rfl (s5.get 10 rfl) rfl k3 rfl sz_39 (by simp [Value.oneCell']) s5.fok id (vv 0 rfl (vv 2 rfl (vv 3 rfl vn))) fun a6 w6 k3 g6 s6 => ?_
  have rd := rd_grownO rd g6 (fun x e => by cases e; omega)
  have k2 := k2.grown g6 (by simp; omega)
  have z6 := grown_far z5 g6 (fun x e => by cases e; exact hg3)
  refine wpList_done ?_
  refine wp_seq ?_
  refine wp_region_lit ?_
  refine chainK 1 (cc rfl (p_move g0 (od rfl id)) cn) (by kernel_rfl) (s6.keep (sc 0 rfl (sc 2 rfl (sc 3 rfl sn)))) fun a7 w7 b7 s7 => ?_
  have z7 := only_trans z6 (only_of_below b7 (some g))
  have rd := rd.below b7
  have k2 := k2.below b7 k2.lt
  have k3 := k3.below b7 k3.lt
  show wpList _ _ _ (_ :: _) _ _
  have q11 : a7.tmps.getD 11 undef = .pointer (some ⟨g, 0, none⟩) := s7.get 11 rfl
  refine rd_on [.tmp 11, .const (.int .i64 1)] s7 (fun _ => rfl) (by simp [Region.wanted]) (fun _ _ => by kernel_rfl) rfl (by decide) (show Calls Try.prog 32 #[a7.tmps.getD 11 undef, .int .i64 1] w7 _ from by rw [q11]; exact cNumS (s := (nx bs (k, b) 1).2) rd hB hm (n := 1) (by decide) (by decide)) fun a8 w8 rd g8 s8 => ?_
  have k2 := k2.grown g8 (by simp; omega)
  have k3 := k3.grown g8 (by simp; omega)
  have z8 := only_trans z7 g8
  refine chainT (t := []) (cc rfl (p_cvE (n' := (nx bs (nx bs (k, b) 1).2 1).1) (by have := nx1 hB (nx bs (k, b) 1).2; rw [IntKind.wrap_i64]; omega) g0 (od rfl id) cv_23_3)
      (cc rfl (p_assign g0 (od rfl id)) cn)) (by kernel_rfl) s8 fun a9 w9 b9 s9 => wpList_done ?_
  have z9 := only_trans z8 (only_of_below b9 (some g))
  have rd := rd.below b9
  have k2 := k2.below b9 k2.lt
  have k3 := k3.below b9 k3.lt
  have hn0 := nx1 hB (nx bs (k, b) 1).2
  obtain ⟨n, hn⟩ : ∃ n : Nat, (nx bs (nx bs (k, b) 1).2 1).1 = (n : Int) := ⟨(nx bs (nx bs (k, b) 1).2 1).1.toNat, by omega⟩
  have s9 := s9.more 4 (y := .int .i64 (n : Int)) (int_as (s9.get 4 rfl) hn)
  refine wp_seq ?_
  refine wp_seq ?_
  refine flowC mixed (s9.keep (sc 0 rfl (sc 2 rfl (sc 3 rfl (sc 4 rfl sn))))) (by kernel_rfl) (by kernel_rfl) (cc rfl (p_move g0 (od rfl id))
      (cc rfl (p_bin g0 (od rfl id) (oc _) b_gtr_3) cn)) fun a10 w10 b10 s10 => ?_
  have z10 := only_trans z9 (only_of_below b10 (some g))
  have rd := rd.below b10
  have k2 := k2.below b10 k2.lt
  have k3 := k3.below b10 k3.lt
  refine s10.cond 15 rfl (fun h15 => ?_) (fun h15 => ?_)
  · -- true
    refine wp_region_lit ?_
    refine chainK 1 (cc rfl (p_move g0 (od rfl id)) cn) (by kernel_rfl) (s10.keep (sc 0 rfl (sc 2 rfl (sc 3 rfl (sc 4 rfl sn))))) fun a11 w11 b11 s11 => ?_
    have z11 := only_trans z10 (only_of_below b11 (some g))
    have rd := rd.below b11
    have k2 := k2.below b11 k2.lt
    have k3 := k3.below b11 k3.lt
    show wpList _ _ _ (_ :: _) _ _
    have q16 : a11.tmps.getD 16 undef = .pointer (some ⟨g, 0, none⟩) := s11.get 16 rfl
    refine rd_on [.tmp 16] s11 (fun _ => rfl) (by simp [Region.wanted]) (fun _ _ => by kernel_rfl) rfl (by decide) (show Calls Try.prog 39 #[a11.tmps.getD 16 undef] w11 _ from by rw [q16]; exact cFail rd) fun a12 w12 rd g12 s12 => ?_
    have k2 := k2.grown g12 (by simp; omega)
    have k3 := k3.grown g12 (by simp; omega)
    have z12 := only_trans z11 g12
    refine wpList_done ?_
    have rd : Pk.RdAt w12 g bs (labS bs (k, b)).1 (labS bs (k, b)).2 := by unfold labS; rw [if_pos (by rw [hn]; exact of_decide_eq_true h15)]; exact rd
    refine wp_seq ?_
    refine wp_seq ?_
    refine flowC mixed (s12.keep (sc 0 rfl (sc 2 rfl (sc 3 rfl (sc 4 rfl sn))))) (by kernel_rfl) (by kernel_rfl) (cc rfl (p_assign g0 (oc _)) cn) fun a13 w13 b13 s13 => ?_
    have z13 := only_trans z12 (only_of_below b13 (some g))
    have rd := rd.below b13
    have k2 := k2.below b13 k2.lt
    have k3 := k3.below b13 k3.lt
    refine wp_block ?_
    refine wp_count n 5 (LXI w g g2 g3 n (nx bs (k, b) 1).1 bs (labS bs (k, b))) (fun _ _ _ ⟨_, _, _, _, hs⟩ => hs.get 5 rfl) ⟨_, [], _, ⟨rd, k2, k3, World.ownsRow_nil _ _ _ _, rfl, rfl, Nat.zero_le _, z13⟩, s13.to _ ⟨rfl, rfl, rfl, rfl, rfl, True.intro⟩⟩ fun i a14 w14 hi14 hI => ?_
    obtain ⟨v, ps, s, ⟨rd, k2, k3, ow, heq, hlen, hle, z14⟩, s14⟩ := hI
    refine wp_seq ?_
    refine wp_seq ?_
    by_cases hin : i < n
    · -- in
      refine wp_region_lit ?_
      refine chainK 4 (cc rfl (p_move g0 (od rfl id))
          (cc rfl (p_move g0 (od rfl id))
          (cc rfl (p_bin g0 (od rfl id) (od rfl id) b_lss_3)
          (cc rfl (p_move g0 (od rfl id)) cn)))) (by kernel_rfl) (s14.keep (sc 0 rfl (sc 2 rfl (sc 3 rfl (sc 4 rfl (sc 5 rfl sn)))))) fun a15 w15 b15 s15 => ?_
      have z15 := only_trans z14 (only_of_below b15 (some g))
      have rd := rd.below b15
      have k2 := k2.below b15 k2.lt
      have k3 := k3.below b15 k3.lt
      have ow := own_below ow b15
      have s15 := s15.more 21 (y := .bool true) (bool_as (s15.get 21 rfl) (by simp [hin]))
      refine chainK 1 (cc rfl (p_move (g1 rfl rfl) (od rfl (fun _ => rfl))) cn) (by kernel_rfl) s15 fun a16 w16 b16 s16 => ?_
      have z16 := only_trans z15 (only_of_below b16 (some g))
      have rd := rd.below b16
      have k2 := k2.below b16 k2.lt
      have k3 := k3.below b16 k3.lt
      have ow := own_below ow b16
      show wpList _ _ _ (_ :: _) _ _
      have q22 : a16.tmps.getD 22 undef = .pointer (some ⟨g, 0, none⟩) := s16.get 22 rfl
      refine rd_on [.tmp 22] s16 (fun _ => rfl) (Eq.trans (s16.wanted (g1 rfl rfl) rfl) rfl) (fun _ _ => by kernel_rfl) rfl (by decide) (show Calls Try.prog 33 #[a16.tmps.getD 22 undef] w16 _ from by rw [q22]; exact cBad rd) fun a17 w17 rd g17 s17 => ?_
      have k2 := k2.grown g17 (by simp; omega)
      have k3 := k3.grown g17 (by simp; omega)
      have ow := own_grown ow g17 hg
      have z17 := only_trans z16 g17
      refine chainT (t := []) (cc rfl (p_not (g1 rfl rfl) (od rfl (fun _ => rfl)))
          (cc rfl (p_and g0 (od rfl id) (od rfl id)) cn)) (by kernel_rfl) s17 fun a18 w18 b18 s18 => wpList_done ?_
      have z18 := only_trans z17 (only_of_below b18 (some g))
      have rd := rd.below b18
      have k2 := k2.below b18 k2.lt
      have k3 := k3.below b18 k3.lt
      have ow := own_below ow b18
      refine s18.cond 25 rfl (fun h25 => ?_) (fun h25 => ?_)
      · -- true
        have hbad : s.2 = false := by simpa using h25
        have hgo := heq
        rw [show n - i = (n - (i + 1)) + 1 by omega, rdP_go hbad] at hgo
        refine wp_skip ?_
        refine wp_seq ?_
        refine wp_block ?_
        refine wp_seq ?_
        refine wp_region_lit ?_
        refine chainK 1 (cc rfl (p_move g0 (od rfl id)) cn) (by kernel_rfl) (s18.keep (sc 0 rfl (sc 2 rfl (sc 3 rfl (sc 4 rfl (sc 5 rfl (sc 18 rfl (sc 19 rfl (sc 20 rfl (sc 21 rfl (sc 22 rfl (sc 23 rfl (sc 24 rfl (sc 25 rfl sn)))))))))))))) fun a19 w19 b19 s19 => ?_
        have z19 := only_trans z18 (only_of_below b19 (some g))
        have rd := rd.below b19
        have k2 := k2.below b19 k2.lt
        have k3 := k3.below b19 k3.lt
        have ow := own_below ow b19
        show wpList _ _ _ (_ :: _) _ _
        have q28 : a19.tmps.getD 28 undef = .pointer (some ⟨g, 0, none⟩) := s19.get 28 rfl
        refine rd_on [.tmp 28, .const (.int .i64 4)] s19 (fun _ => rfl) (by simp [Region.wanted]) (fun _ _ => by kernel_rfl) rfl (by decide) (show Calls Try.prog 32 #[a19.tmps.getD 28 undef, .int .i64 4] w19 _ from by rw [q28]; exact cNumS (s := s) rd hB hm (n := 4) (by decide) (by decide)) fun a20 w20 rd g20 s20 => ?_
        have k2 := k2.grown g20 (by simp; omega)
        have k3 := k3.grown g20 (by simp; omega)
        have ow := own_grown ow g20 hg
        have z20 := only_trans z19 g20
        refine chainT (t := []) (cc rfl (p_cvE (n' := (nx bs s 4).1) (by have := nx4 hB s; rw [IntKind.wrap_u32]; omega) g0 (od rfl id) cv_23_70)
            (cc rfl (p_assign g0 (od rfl id)) cn)) (by kernel_rfl) s20 fun a21 w21 b21 s21 => wpList_done ?_
        have z21 := only_trans z20 (only_of_below b21 (some g))
        have rd := rd.below b21
        have k2 := k2.below b21 k2.lt
        have k3 := k3.below b21 k3.lt
        have ow := own_below ow b21
        have hx := ex_ok (nx bs (k, b) 1).1 ow
        have e3 := s21.get 3 rfl
        have s21 := s21.more 3 (y := .both (.val (.pointer (some ⟨g3, 0, none⟩))) (.at (Lay.exact [.int .i64 (nx bs (k, b) 1).1, v] hx) ())) ⟨e3, by rw [show _ = _ from e3]; exact at_of_blk k3 rfl (fun o hf => by unfold AtB at hf; simp only at hf; omega)⟩
        refine flowE 8 4 g 35 (.int .u64 (nx bs (nx bs s 4).2 1).1) (fun wr => Pk.RdAt wr g bs (nx bs s 4).2.1 (nx bs s 4).2.2) (fun wr => Pk.RdAt wr g bs (nx bs (nx bs s 4).2 1).2.1 (nx bs (nx bs s 4).2 1).2.2) mixed (s21.keep (sc 0 rfl (sc 2 rfl (sc 3 rfl (sc 4 rfl (sc 5 rfl (sc 6 rfl sn))))))) (fun _ => rfl) rd (fun h hb => h.below hb) (fun h hb => h.below hb) (by kernel_rfl) (by decide) (cc rfl (p_fieldAddr (ex_part hx) fa_39_1 g0 (od2 rfl id))
            (cc rfl (p_load1 rfl ld_37 g0 (od rfl id))
            (cc rfl (p_move g0 (od rfl id))
            (cc rfl (p_move g0 (od rfl id)) cn)))) (by kernel_rfl) (cc rfl (p_cvE (n' := (nx bs (nx bs s 4).2 1).1) (by have := nx1 hB (nx bs s 4).2; rw [IntKind.wrap_i64]; omega) g0 (od rfl id) cv_23_3)
            (cc rfl (p_bd90 g0 (od rfl id) (od rfl id))
            (cc rfl (p_lit prF bs_37 g0 (od rfl id)) cn))) (by kernel_rfl) (by kernel_rfl) (fun ac wc o ho hsz hf hknow hrd R hR => ?_) rfl fun a22 w22 g22 rd s22 => ?_
        · obtain rfl := Option.some.inj ho
          have q34 : ac.tmps.getD 34 undef = .pointer (some ⟨g, 0, none⟩) := (hknow 34 (List.contains_iff_mem.1 (by kernel_rfl)) _ rfl).1 rfl
          refine call_wp 32 [.tmp 34, .const (.int .i64 1)] rfl (fun _ _ => by kernel_rfl) ?_
          refine (show Calls Try.prog 32 #[ac.tmps.getD 34 undef, .int .i64 1] wc _ from by rw [q34]; exact cNumS (s := (nx bs s 4).2) hrd hB hm (n := 1) (by decide) (by decide)).mono ?_
          rintro _ w' ⟨rfl, h1, h2⟩
          exact ⟨_, rfl, hR _ w' h2 (fun _ => rd_blk h1) h1 rfl⟩
        have k2 := k2.grown g22 (by simp; omega)
        have k3 := k3.grown g22 (by simp; omega)
        have ow := own_grown ow g22 hg
        have z22 := only_trans z21 g22
        show wpList _ _ _ (_ :: _) _ _
        have q32 : a22.tmps.getD 32 undef = v := by have q := s22.get 32 (y := .one (Lay.exact [v] _) ()) rfl; exact List.singleton_inj.1 q
        have e3 := (s22.get 3 rfl).1
        have s22 := s22.more 3 (y := .val (.pointer (some ⟨g3, 0, none⟩))) e3
        refine app_on (e2 := LXE g g2 g3 n i) 32 38 id s22 rfl rfl (by decide) rfl Try.underlying37 hi0 hz0 hz1 hz2 rfl (by decide) ow q32 rfl rfl (prF.one _) (by unfold maxLen; omega) (by omega) z22.size (vv 5 rfl (vv 0 rfl (vv 2 rfl (vv 3 rfl (vv 4 rfl vn))))) fun v2 a23 w23 ow2 g23 s23 => ?_
        have hne2 := own_ne ow k2 (by decide)
        have hne3 := own_ne ow k3 (by decide)
        have k2 := k2.grown g23 hne2
        have k3 := k3.grown g23 hne3
        have rd := rd_grownO rd g23 (fun x hx => Nat.lt_of_lt_of_le hg (own_base ow hx))
        have z23 := grown_far z22 g23 (fun x hx => own_base ow hx)
        show wpList _ _ _ (_ :: _) _ _
        refine chainK 1 (cc rfl (p_faV0 fa_39_1 g0 (od rfl id)) cn) (by kernel_rfl) s23 fun a24 w24 b24 s24 => ?_
        have z24 := only_trans z23 (only_of_below b24 (some g))
        have rd := rd.below b24
        have k2 := k2.below b24 k2.lt
        have k3 := k3.below b24 k3.lt
        have ow2 := own_below ow2 b24
        show wpList _ _ _ (_ :: _) _ _
        refine cell_on (e2 := LXE g g2 g3 n i) 40 39 id s24 rfl rfl rfl rfl rfl k3 (Nat.lt_succ_self 1) (slice_one ow2).2 (by kernel_rfl) (slice_one ow2).1 (vv 5 rfl (vv 0 rfl (vv 2 rfl (vv 3 rfl (vv 4 rfl vn))))) fun a25 w25 k3x hw25 s25 => wpList_done ?_
        have g25 : w24.grownBy w25 (some g3) := by rw [hw25]; exact only_setCells [v2] 1 (only_refl _ _)
        have ow2 := own_grown3 ow2 g25 (own_ne ow2 k3 (by decide))
        have k3 := k3x
        have k2 := k2.grown g25 (by simp; omega)
        have rd := rd_grownO rd g25 (fun x e => by cases e; omega)
        have z25 := grown_far z24 g25 (fun x e => by cases e; exact hg3)
        refine flowT (s25.keep (sc 0 rfl (sc 2 rfl (sc 3 rfl (sc 4 rfl (sc 5 rfl sn)))))) (by kernel_rfl) (cc rfl (p_move g0 (od rfl id))
            (cc rfl (p_bin g0 (od rfl id) (oc _) (inc_3 (by omega)))
            (cc rfl (p_assign g0 (od rfl id)) cn))) fun a26 w26 b26 s26 => ?_
        have z26 := only_trans z25 (only_of_below b26 (some g))
        have rd := rd.below b26
        have k2 := k2.below b26 k2.lt
        have k3 := k3.below b26 k3.lt
        have ow2 := own_below ow2 b26
        exact ⟨hin, v2, _, _, ⟨rd, k2, k3, by rw [List.length_append, List.flatMap_append]; exact ow2, hgo, by simp [hlen], hin, z26⟩, s26.to _ ⟨rfl, rfl, rfl, rfl, rfl, True.intro⟩⟩
      · -- false
        have hbad : s.2 = true := by simpa using h25
        rw [rdP_bad hbad] at heq
        refine wp_exit ?_
        refine wp_seq ?_
        refine wp_seq ?_
        have e3 := s18.get 3 rfl
        have s18 := s18.more 3 (y := .both (.val (.pointer (some ⟨g3, 0, none⟩))) (.at rawL ⟨(nx bs (k, b) 1).1, ps⟩)) ⟨e3, by rw [show _ = _ from e3]; exact at_of_blk k3 (raw_of_own ow hg) (fun o hf => by unfold AtB at hf; simp only at hf; omega)⟩
        refine wp_region_lit ?_
        refine chainK 1 (cc rfl (p_move g0 (od rfl id)) cn) (by kernel_rfl) (s18.keep (sc 0 rfl (sc 2 rfl (sc 3 rfl sn)))) fun a27 w27 b27 s27 => ?_
        have z27 := only_trans z18 (only_of_below b27 (some g))
        have rd := rd.below b27
        have k2 := k2.below b27 k2.lt
        have k3 := k3.below b27 k3.lt
        have ow := own_below ow b27
        show wpList _ _ _ (_ :: _) _ _
        have q41 : a27.tmps.getD 41 undef = .pointer (some ⟨g, 0, none⟩) := s27.get 41 rfl
        refine rd_on [.tmp 41] s27 (fun _ => rfl) (by simp [Region.wanted]) (fun _ _ => by kernel_rfl) rfl (by decide) (show Calls Try.prog 33 #[a27.tmps.getD 41 undef] w27 _ from by rw [q41]; exact cBad rd) fun a28 w28 rd g28 s28 => ?_
        have k2 := k2.grown g28 (by simp; omega)
        have k3 := k3.grown g28 (by simp; omega)
        have ow := own_grown ow g28 hg
        have z28 := only_trans z27 g28
        refine chainT (t := []) (cc rfl (p_move g0 (od rfl id))
            (cc rfl (p_load Try.underlying39 rfl sz_39 (g1 rfl rfl) (od2 rfl (fun _ => rfl)))
            (cc rfl (p_call 49 (g1 rfl rfl) (ox (od rfl id) ox0) (fun _ _ => by kernel_rfl) (f49r (by show ps.length ≤ 100000; omega)))
            (cc rfl (p_not (g1 rfl rfl) (od rfl id))
            (cc rfl (p_or g0 (od rfl id) (od rfl id)) cn))))) (by kernel_rfl) s28 fun a29 w29 b29 s29 => wpList_done ?_
        have z29 := only_trans z28 (only_of_below b29 (some g))
        have rd := rd.below b29
        have k2 := k2.below b29 k2.lt
        have k3 := k3.below b29 k3.lt
        have ow := own_below ow b29
        refine s29.cond 47 rfl (fun h47 => ?_) (fun h47 => ?_)
        · -- true
          have hcond : s.2 = true ∨ rightB ⟨(nx bs (k, b) 1).1, ps⟩ = false := by simpa using h47
          refine wp_seq ?_
          refine wp_region_lit ?_
          refine chainK 1 (cc rfl (p_move g0 (od rfl id)) cn) (by kernel_rfl) (s29.keep (sc 0 rfl (sc 2 rfl (sc 3 rfl sn)))) fun a30 w30 b30 s30 => ?_
          have z30 := only_trans z29 (only_of_below b30 (some g))
          have rd := rd.below b30
          have k2 := k2.below b30 k2.lt
          have k3 := k3.below b30 k3.lt
          have ow := own_below ow b30
          show wpList _ _ _ (_ :: _) _ _
          have q48 : a30.tmps.getD 48 undef = .pointer (some ⟨g, 0, none⟩) := s30.get 48 rfl
          refine rd_on [.tmp 48] s30 (fun _ => rfl) (by simp [Region.wanted]) (fun _ _ => by kernel_rfl) rfl (by decide) (show Calls Try.prog 39 #[a30.tmps.getD 48 undef] w30 _ from by rw [q48]; exact cFail rd) fun a31 w31 rd g31 s31 => ?_
          have k2 := k2.grown g31 (by simp; omega)
          have k3 := k3.grown g31 (by simp; omega)
          have ow := own_grown ow g31 hg
          have z31 := only_trans z30 g31
          refine wpList_done ?_
          refine wp_seq ?_
          refine wp_region_lit ?_
          refine chainK 1 (cc rfl (p_done bz39 (y := .val (.agg #[.int .i64 0, .slice none 0 0])) (fun _ _ => rfl) g0) cn) (by kernel_rfl) (s31.keep (sc 2 rfl sn)) fun a32 w32 b32 s32 => ?_
          have z32 := only_trans z31 (only_of_below b32 (some g))
          have rd := rd.below b32
          have k2 := k2.below b32 k2.lt
          have k3 := k3.below b32 k3.lt
          have ow := own_below ow b32
          show wpList _ _ _ (_ :: _) _ _
          have hnow := own_ne ow k2 (by decide)
          refine store_on (cs := #[.int .i64 0, .slice none 0 0]) 2 50 s32 rfl rfl rfl (s32.get 50 rfl) rfl k2 rfl sz_39 (by simp [Value.oneCell']) s32.fok id (vv 2 rfl vn) fun a33 w33 k2 g33 s33 => ?_
          have ow := own_grown3 ow g33 hnow
          have rd := rd_grownO rd g33 (fun x e => by cases e; omega)
          have k3 := k3.grown g33 (by simp; omega)
          have z33 := grown_far z32 g33 (fun x e => by cases e; exact hg2)
          refine wpList_done ?_
          have hX : labX bs (k, b) = (⟨0, []⟩, (s.1, true)) := by unfold labX; rw [hn, Int.toNat_natCast, ← heq, if_pos hcond]
          rw [hX]
          refine wp_ret (then_ret ?_)
          exact bodyPost_ret (results_cell_row rfl _ _ g2 39 #[.int .i64 0, .slice none 0 0] (0, 0) _ (s33.get 2 rfl) k2 Try.underlying39 rfl (by kernel_rfl)) s33.defers ⟨.slice none 0 0, rfl, World.ownsRow_nil _ _ _ _, rd, z33⟩
        · -- false
          have hcond : ¬ (s.2 = true ∨ rightB ⟨(nx bs (k, b) 1).1, ps⟩ = false) := by simpa using h47
          refine wp_skip ?_
          refine wp_seq ?_
          have hx := ex_ok (nx bs (k, b) 1).1 ow
          have e3 := (s29.get 3 rfl).1
          have s29 := s29.more 3 (y := .both (.val (.pointer (some ⟨g3, 0, none⟩))) (.at (Lay.exact [.int .i64 (nx bs (k, b) 1).1, v] hx) ())) ⟨e3, by rw [show _ = _ from e3]; exact at_of_blk k3 rfl (fun o hf => by unfold AtB at hf; simp only at hf; omega)⟩
          refine wp_region_lit ?_
          refine chainK 1 (cc rfl (p_load Try.underlying39 rfl sz_39 g0 (od2 rfl id)) cn) (by kernel_rfl) (s29.keep (sc 2 rfl (sc 3 rfl sn))) fun a34 w34 b34 s34 => ?_
          have z34 := only_trans z29 (only_of_below b34 (some g))
          have rd := rd.below b34
          have k2 := k2.below b34 k2.lt
          have k3 := k3.below b34 k3.lt
          have ow := own_below ow b34
          show wpList _ _ _ (_ :: _) _ _
          obtain ⟨cs51, q51, e51⟩ := s34.get 51 rfl
          obtain rfl : cs51 = [.int .i64 (nx bs (k, b) 1).1, v] := e51
          have hnow := own_ne ow k2 (by decide)
          refine store_on (cs := #[.int .i64 (nx bs (k, b) 1).1, v]) 2 51 s34 rfl rfl rfl q51 rfl k2 rfl sz_39 (all_arr hx) s34.fok id (vv 2 rfl vn) fun a35 w35 k2 g35 s35 => ?_
          have ow := own_grown3 ow g35 hnow
          have rd := rd_grownO rd g35 (fun x e => by cases e; omega)
          have k3 := k3.grown g35 (by simp; omega)
          have z35 := grown_far z34 g35 (fun x e => by cases e; exact hg2)
          refine wpList_done ?_
          have hX : labX bs (k, b) = (⟨(nx bs (k, b) 1).1, ps⟩, s) := by unfold labX; rw [hn, Int.toNat_natCast, ← heq, if_neg hcond]
          rw [hX]
          refine wp_ret ?_
          exact bodyPost_ret (results_cell_row rfl _ _ g2 39 #[.int .i64 (nx bs (k, b) 1).1, v] (0, 0) _ (s35.get 2 rfl) k2 Try.underlying39 rfl (by kernel_rfl)) s35.defers ⟨v, rfl, ow, rd, z35⟩
    · -- out
      refine wp_region_lit ?_
      refine chainK 4 (cc rfl (p_move g0 (od rfl id))
          (cc rfl (p_move g0 (od rfl id))
          (cc rfl (p_bin g0 (od rfl id) (od rfl id) b_lss_3)
          (cc rfl (p_move g0 (od rfl id)) cn)))) (by kernel_rfl) (s14.keep (sc 0 rfl (sc 2 rfl (sc 3 rfl (sc 4 rfl (sc 5 rfl sn)))))) fun a36 w36 b36 s36 => ?_
      have z36 := only_trans z14 (only_of_below b36 (some g))
      have rd := rd.below b36
      have k2 := k2.below b36 k2.lt
      have k3 := k3.below b36 k3.lt
      have ow := own_below ow b36
      have s36 := s36.more 21 (y := .bool false) (bool_as (s36.get 21 rfl) (by simp; omega))
      refine chainK 1 (cc rfl (p_move (g1 rfl rfl) (od rfl (fun _ => rfl))) cn) (by kernel_rfl) s36 fun a37 w37 b37 s37 => ?_
      have z37 := only_trans z36 (only_of_below b37 (some g))
      have rd := rd.below b37
      have k2 := k2.below b37 k2.lt
      have k3 := k3.below b37 k3.lt
      have ow := own_below ow b37
      show wpList _ _ _ (_ :: _) _ _
      refine rd_off (.bool true) s37 (Eq.trans (s37.wanted (g1 rfl rfl) rfl) rfl) rfl (by decide) fun a38 s38 => ?_
      have z38 := z37
      refine chainT (t := []) (cc rfl (p_not (g1 rfl rfl) (od rfl id))
          (cc rfl (p_and g0 (od rfl id) (od rfl id)) cn)) (by kernel_rfl) s38 fun a39 w39 b39 s39 => wpList_done ?_
      have z39 := only_trans z38 (only_of_below b39 (some g))
      have rd := rd.below b39
      have k2 := k2.below b39 k2.lt
      have k3 := k3.below b39 k3.lt
      have ow := own_below ow b39
      rw [show n - i = 0 by omega, rdP] at heq
      refine s39.cond 25 rfl (fun h => absurd h (by simp)) fun _ => ?_
      refine wp_exit ?_
      refine wp_seq ?_
      refine wp_seq ?_
      have e3 := s39.get 3 rfl
      have s39 := s39.more 3 (y := .both (.val (.pointer (some ⟨g3, 0, none⟩))) (.at rawL ⟨(nx bs (k, b) 1).1, ps⟩)) ⟨e3, by rw [show _ = _ from e3]; exact at_of_blk k3 (raw_of_own ow hg) (fun o hf => by unfold AtB at hf; simp only at hf; omega)⟩
      refine wp_region_lit ?_
      refine chainK 1 (cc rfl (p_move g0 (od rfl id)) cn) (by kernel_rfl) (s39.keep (sc 0 rfl (sc 2 rfl (sc 3 rfl sn)))) fun a40 w40 b40 s40 => ?_
      have z40 := only_trans z39 (only_of_below b40 (some g))
      have rd := rd.below b40
      have k2 := k2.below b40 k2.lt
      have k3 := k3.below b40 k3.lt
      have ow := own_below ow b40
      show wpList _ _ _ (_ :: _) _ _
      have q41 : a40.tmps.getD 41 undef = .pointer (some ⟨g, 0, none⟩) := s40.get 41 rfl
      refine rd_on [.tmp 41] s40 (fun _ => rfl) (by simp [Region.wanted]) (fun _ _ => by kernel_rfl) rfl (by decide) (show Calls Try.prog 33 #[a40.tmps.getD 41 undef] w40 _ from by rw [q41]; exact cBad rd) fun a41 w41 rd g41 s41 => ?_
      have k2 := k2.grown g41 (by simp; omega)
      have k3 := k3.grown g41 (by simp; omega)
      have ow := own_grown ow g41 hg
      have z41 := only_trans z40 g41
      refine chainT (t := []) (cc rfl (p_move g0 (od rfl id))
          (cc rfl (p_load Try.underlying39 rfl sz_39 (g1 rfl rfl) (od2 rfl (fun _ => rfl)))
          (cc rfl (p_call 49 (g1 rfl rfl) (ox (od rfl id) ox0) (fun _ _ => by kernel_rfl) (f49r (by show ps.length ≤ 100000; omega)))
          (cc rfl (p_not (g1 rfl rfl) (od rfl id))
          (cc rfl (p_or g0 (od rfl id) (od rfl id)) cn))))) (by kernel_rfl) s41 fun a42 w42 b42 s42 => wpList_done ?_
      have z42 := only_trans z41 (only_of_below b42 (some g))
      have rd := rd.below b42
      have k2 := k2.below b42 k2.lt
      have k3 := k3.below b42 k3.lt
      have ow := own_below ow b42
      refine s42.cond 47 rfl (fun h47 => ?_) (fun h47 => ?_)
      · -- true
        have hcond : s.2 = true ∨ rightB ⟨(nx bs (k, b) 1).1, ps⟩ = false := by simpa using h47
        refine wp_seq ?_
        refine wp_region_lit ?_
        refine chainK 1 (cc rfl (p_move g0 (od rfl id)) cn) (by kernel_rfl) (s42.keep (sc 0 rfl (sc 2 rfl (sc 3 rfl sn)))) fun a43 w43 b43 s43 => ?_
        have z43 := only_trans z42 (only_of_below b43 (some g))
        have rd := rd.below b43
        have k2 := k2.below b43 k2.lt
        have k3 := k3.below b43 k3.lt
        have ow := own_below ow b43
        show wpList _ _ _ (_ :: _) _ _
        have q48 : a43.tmps.getD 48 undef = .pointer (some ⟨g, 0, none⟩) := s43.get 48 rfl
        refine rd_on [.tmp 48] s43 (fun _ => rfl) (by simp [Region.wanted]) (fun _ _ => by kernel_rfl) rfl (by decide) (show Calls Try.prog 39 #[a43.tmps.getD 48 undef] w43 _ from by rw [q48]; exact cFail rd) fun a44 w44 rd g44 s44 => ?_
        have k2 := k2.grown g44 (by simp; omega)
        have k3 := k3.grown g44 (by simp; omega)
        have ow := own_grown ow g44 hg
        have z44 := only_trans z43 g44
        refine wpList_done ?_
        refine wp_seq ?_
        refine wp_region_lit ?_
        refine chainK 1 (cc rfl (p_done bz39 (y := .val (.agg #[.int .i64 0, .slice none 0 0])) (fun _ _ => rfl) g0) cn) (by kernel_rfl) (s44.keep (sc 2 rfl sn)) fun a45 w45 b45 s45 => ?_
        have z45 := only_trans z44 (only_of_below b45 (some g))
        have rd := rd.below b45
        have k2 := k2.below b45 k2.lt
        have k3 := k3.below b45 k3.lt
        have ow := own_below ow b45
        show wpList _ _ _ (_ :: _) _ _
        have hnow := own_ne ow k2 (by decide)
        refine store_on (cs := #[.int .i64 0, .slice none 0 0]) 2 50 s45 rfl rfl rfl (s45.get 50 rfl) rfl k2 rfl sz_39 (by simp [Value.oneCell']) s45.fok id (vv 2 rfl vn) fun a46 w46 k2 g46 s46 => ?_
        have ow := own_grown3 ow g46 hnow
        have rd := rd_grownO rd g46 (fun x e => by cases e; omega)
        have k3 := k3.grown g46 (by simp; omega)
        have z46 := grown_far z45 g46 (fun x e => by cases e; exact hg2)
        refine wpList_done ?_
        have hX : labX bs (k, b) = (⟨0, []⟩, (s.1, true)) := by unfold labX; rw [hn, Int.toNat_natCast, ← heq, if_pos hcond]
        rw [hX]
        refine wp_ret (then_ret ?_)
        exact bodyPost_ret (results_cell_row rfl _ _ g2 39 #[.int .i64 0, .slice none 0 0] (0, 0) _ (s46.get 2 rfl) k2 Try.underlying39 rfl (by kernel_rfl)) s46.defers ⟨.slice none 0 0, rfl, World.ownsRow_nil _ _ _ _, rd, z46⟩
      · -- false
        have hcond : ¬ (s.2 = true ∨ rightB ⟨(nx bs (k, b) 1).1, ps⟩ = false) := by simpa using h47
        refine wp_skip ?_
        refine wp_seq ?_
        have hx := ex_ok (nx bs (k, b) 1).1 ow
        have e3 := (s42.get 3 rfl).1
        have s42 := s42.more 3 (y := .both (.val (.pointer (some ⟨g3, 0, none⟩))) (.at (Lay.exact [.int .i64 (nx bs (k, b) 1).1, v] hx) ())) ⟨e3, by rw [show _ = _ from e3]; exact at_of_blk k3 rfl (fun o hf => by unfold AtB at hf; simp only at hf; omega)⟩
        refine wp_region_lit ?_
        refine chainK 1 (cc rfl (p_load Try.underlying39 rfl sz_39 g0 (od2 rfl id)) cn) (by kernel_rfl) (s42.keep (sc 2 rfl (sc 3 rfl sn))) fun a47 w47 b47 s47 => ?_
        have z47 := only_trans z42 (only_of_below b47 (some g))
        have rd := rd.below b47
        have k2 := k2.below b47 k2.lt
        have k3 := k3.below b47 k3.lt
        have ow := own_below ow b47
        show wpList _ _ _ (_ :: _) _ _
        obtain ⟨cs51, q51, e51⟩ := s47.get 51 rfl
        obtain rfl : cs51 = [.int .i64 (nx bs (k, b) 1).1, v] := e51
        have hnow := own_ne ow k2 (by decide)
        refine store_on (cs := #[.int .i64 (nx bs (k, b) 1).1, v]) 2 51 s47 rfl rfl rfl q51 rfl k2 rfl sz_39 (all_arr hx) s47.fok id (vv 2 rfl vn) fun a48 w48 k2 g48 s48 => ?_
        have ow := own_grown3 ow g48 hnow
        have rd := rd_grownO rd g48 (fun x e => by cases e; omega)
        have k3 := k3.grown g48 (by simp; omega)
        have z48 := grown_far z47 g48 (fun x e => by cases e; exact hg2)
        refine wpList_done ?_
        have hX : labX bs (k, b) = (⟨(nx bs (k, b) 1).1, ps⟩, s) := by unfold labX; rw [hn, Int.toNat_natCast, ← heq, if_neg hcond]
        rw [hX]
        refine wp_ret ?_
        exact bodyPost_ret (results_cell_row rfl _ _ g2 39 #[.int .i64 (nx bs (k, b) 1).1, v] (0, 0) _ (s48.get 2 rfl) k2 Try.underlying39 rfl (by kernel_rfl)) s48.defers ⟨v, rfl, ow, rd, z48⟩
  · -- false
    have rd : Pk.RdAt w10 g bs (labS bs (k, b)).1 (labS bs (k, b)).2 := by unfold labS; rw [if_neg (by rw [hn]; exact of_decide_eq_false h15)]; exact rd
    refine wp_skip ?_
    refine wp_seq ?_
    refine wp_seq ?_
    refine flowC mixed (s10.keep (sc 0 rfl (sc 2 rfl (sc 3 rfl (sc 4 rfl sn))))) (by kernel_rfl) (by kernel_rfl) (cc rfl (p_assign g0 (oc _)) cn) fun a49 w49 b49 s49 => ?_
    have z49 := only_trans z10 (only_of_below b49 (some g))
    have rd := rd.below b49
    have k2 := k2.below b49 k2.lt
    have k3 := k3.below b49 k3.lt
    refine wp_block ?_
    refine wp_count n 5 (LXI w g g2 g3 n (nx bs (k, b) 1).1 bs (labS bs (k, b))) (fun _ _ _ ⟨_, _, _, _, hs⟩ => hs.get 5 rfl) ⟨_, [], _, ⟨rd, k2, k3, World.ownsRow_nil _ _ _ _, rfl, rfl, Nat.zero_le _, z49⟩, s49.to _ ⟨rfl, rfl, rfl, rfl, rfl, True.intro⟩⟩ fun i a50 w50 hi50 hI => ?_
    obtain ⟨v, ps, s, ⟨rd, k2, k3, ow, heq, hlen, hle, z50⟩, s50⟩ := hI
    refine wp_seq ?_
    refine wp_seq ?_
    by_cases hin : i < n
    · -- in
      refine wp_region_lit ?_
      refine chainK 4 (cc rfl (p_move g0 (od rfl id))
          (cc rfl (p_move g0 (od rfl id))
          (cc rfl (p_bin g0 (od rfl id) (od rfl id) b_lss_3)
          (cc rfl (p_move g0 (od rfl id)) cn)))) (by kernel_rfl) (s50.keep (sc 0 rfl (sc 2 rfl (sc 3 rfl (sc 4 rfl (sc 5 rfl sn)))))) fun a51 w51 b51 s51 => ?_
      have z51 := only_trans z50 (only_of_below b51 (some g))
      have rd := rd.below b51
      have k2 := k2.below b51 k2.lt
      have k3 := k3.below b51 k3.lt
      have ow := own_below ow b51
      have s51 := s51.more 21 (y := .bool true) (bool_as (s51.get 21 rfl) (by simp [hin]))
      refine chainK 1 (cc rfl (p_move (g1 rfl rfl) (od rfl (fun _ => rfl))) cn) (by kernel_rfl) s51 fun a52 w52 b52 s52 => ?_
      have z52 := only_trans z51 (only_of_below b52 (some g))
      have rd := rd.below b52
      have k2 := k2.below b52 k2.lt
      have k3 := k3.below b52 k3.lt
      have ow := own_below ow b52
      show wpList _ _ _ (_ :: _) _ _
      have q22 : a52.tmps.getD 22 undef = .pointer (some ⟨g, 0, none⟩) := s52.get 22 rfl
      refine rd_on [.tmp 22] s52 (fun _ => rfl) (Eq.trans (s52.wanted (g1 rfl rfl) rfl) rfl) (fun _ _ => by kernel_rfl) rfl (by decide) (show Calls Try.prog 33 #[a52.tmps.getD 22 undef] w52 _ from by rw [q22]; exact cBad rd) fun a53 w53 rd g53 s53 => ?_
      have k2 := k2.grown g53 (by simp; omega)
      have k3 := k3.grown g53 (by simp; omega)
      have ow := own_grown ow g53 hg
      have z53 := only_trans z52 g53
      refine chainT (t := []) (cc rfl (p_not (g1 rfl rfl) (od rfl (fun _ => rfl)))
          (cc rfl (p_and g0 (od rfl id) (od rfl id)) cn)) (by kernel_rfl) s53 fun a54 w54 b54 s54 => wpList_done ?_
      have z54 := only_trans z53 (only_of_below b54 (some g))
      have rd := rd.below b54
      have k2 := k2.below b54 k2.lt
      have k3 := k3.below b54 k3.lt
      have ow := own_below ow b54
      refine s54.cond 25 rfl (fun h25 => ?_) (fun h25 => ?_)
      · -- true
        have hbad : s.2 = false := by simpa using h25
        have hgo := heq
        rw [show n - i = (n - (i + 1)) + 1 by omega, rdP_go hbad] at hgo
        refine wp_skip ?_
        refine wp_seq ?_
        refine wp_block ?_
        refine wp_seq ?_
        refine wp_region_lit ?_
        refine chainK 1 (cc rfl (p_move g0 (od rfl id)) cn) (by kernel_rfl) (s54.keep (sc 0 rfl (sc 2 rfl (sc 3 rfl (sc 4 rfl (sc 5 rfl (sc 18 rfl (sc 19 rfl (sc 20 rfl (sc 21 rfl (sc 22 rfl (sc 23 rfl (sc 24 rfl (sc 25 rfl sn)))))))))))))) fun a55 w55 b55 s55 => ?_
        have z55 := only_trans z54 (only_of_below b55 (some g))
        have rd := rd.below b55
        have k2 := k2.below b55 k2.lt
        have k3 := k3.below b55 k3.lt
        have ow := own_below ow b55
        show wpList _ _ _ (_ :: _) _ _
        have q28 : a55.tmps.getD 28 undef = .pointer (some ⟨g, 0, none⟩) := s55.get 28 rfl
        refine rd_on [.tmp 28, .const (.int .i64 4)] s55 (fun _ => rfl) (by simp [Region.wanted]) (fun _ _ => by kernel_rfl) rfl (by decide) (show Calls Try.prog 32 #[a55.tmps.getD 28 undef, .int .i64 4] w55 _ from by rw [q28]; exact cNumS (s := s) rd hB hm (n := 4) (by decide) (by decide)) fun a56 w56 rd g56 s56 => ?_
        have k2 := k2.grown g56 (by simp; omega)
        have k3 := k3.grown g56 (by simp; omega)
        have ow := own_grown ow g56 hg
        have z56 := only_trans z55 g56
        refine chainT (t := []) (cc rfl (p_cvE (n' := (nx bs s 4).1) (by have := nx4 hB s; rw [IntKind.wrap_u32]; omega) g0 (od rfl id) cv_23_70)
            (cc rfl (p_assign g0 (od rfl id)) cn)) (by kernel_rfl) s56 fun a57 w57 b57 s57 => wpList_done ?_
        have z57 := only_trans z56 (only_of_below b57 (some g))
        have rd := rd.below b57
        have k2 := k2.below b57 k2.lt
        have k3 := k3.below b57 k3.lt
        have ow := own_below ow b57
        have hx := ex_ok (nx bs (k, b) 1).1 ow
        have e3 := s57.get 3 rfl
        have s57 := s57.more 3 (y := .both (.val (.pointer (some ⟨g3, 0, none⟩))) (.at (Lay.exact [.int .i64 (nx bs (k, b) 1).1, v] hx) ())) ⟨e3, by rw [show _ = _ from e3]; exact at_of_blk k3 rfl (fun o hf => by unfold AtB at hf; simp only at hf; omega)⟩
        refine flowE 8 4 g 35 (.int .u64 (nx bs (nx bs s 4).2 1).1) (fun wr => Pk.RdAt wr g bs (nx bs s 4).2.1 (nx bs s 4).2.2) (fun wr => Pk.RdAt wr g bs (nx bs (nx bs s 4).2 1).2.1 (nx bs (nx bs s 4).2 1).2.2) mixed (s57.keep (sc 0 rfl (sc 2 rfl (sc 3 rfl (sc 4 rfl (sc 5 rfl (sc 6 rfl sn))))))) (fun _ => rfl) rd (fun h hb => h.below hb) (fun h hb => h.below hb) (by kernel_rfl) (by decide) (cc rfl (p_fieldAddr (ex_part hx) fa_39_1 g0 (od2 rfl id))
            (cc rfl (p_load1 rfl ld_37 g0 (od rfl id))
            (cc rfl (p_move g0 (od rfl id))
            (cc rfl (p_move g0 (od rfl id)) cn)))) (by kernel_rfl) (cc rfl (p_cvE (n' := (nx bs (nx bs s 4).2 1).1) (by have := nx1 hB (nx bs s 4).2; rw [IntKind.wrap_i64]; omega) g0 (od rfl id) cv_23_3)
            (cc rfl (p_bd90 g0 (od rfl id) (od rfl id))
            (cc rfl (p_lit prF bs_37 g0 (od rfl id)) cn))) (by kernel_rfl) (by kernel_rfl) (fun ac wc o ho hsz hf hknow hrd R hR => ?_) rfl fun a58 w58 g58 rd s58 => ?_
        · obtain rfl := Option.some.inj ho
          have q34 : ac.tmps.getD 34 undef = .pointer (some ⟨g, 0, none⟩) := (hknow 34 (List.contains_iff_mem.1 (by kernel_rfl)) _ rfl).1 rfl
          refine call_wp 32 [.tmp 34, .const (.int .i64 1)] rfl (fun _ _ => by kernel_rfl) ?_
          refine (show Calls Try.prog 32 #[ac.tmps.getD 34 undef, .int .i64 1] wc _ from by rw [q34]; exact cNumS (s := (nx bs s 4).2) hrd hB hm (n := 1) (by decide) (by decide)).mono ?_
          rintro _ w' ⟨rfl, h1, h2⟩
          exact ⟨_, rfl, hR _ w' h2 (fun _ => rd_blk h1) h1 rfl⟩
        have k2 := k2.grown g58 (by simp; omega)
        have k3 := k3.grown g58 (by simp; omega)
        have ow := own_grown ow g58 hg
        have z58 := only_trans z57 g58
        show wpList _ _ _ (_ :: _) _ _
        have q32 : a58.tmps.getD 32 undef = v := by have q := s58.get 32 (y := .one (Lay.exact [v] _) ()) rfl; exact List.singleton_inj.1 q
        have e3 := (s58.get 3 rfl).1
        have s58 := s58.more 3 (y := .val (.pointer (some ⟨g3, 0, none⟩))) e3
        refine app_on (e2 := LXE g g2 g3 n i) 32 38 id s58 rfl rfl (by decide) rfl Try.underlying37 hi0 hz0 hz1 hz2 rfl (by decide) ow q32 rfl rfl (prF.one _) (by unfold maxLen; omega) (by omega) z58.size (vv 5 rfl (vv 0 rfl (vv 2 rfl (vv 3 rfl (vv 4 rfl vn))))) fun v2 a59 w59 ow2 g59 s59 => ?_
        have hne2 := own_ne ow k2 (by decide)
        have hne3 := own_ne ow k3 (by decide)
        have k2 := k2.grown g59 hne2
        have k3 := k3.grown g59 hne3
        have rd := rd_grownO rd g59 (fun x hx => Nat.lt_of_lt_of_le hg (own_base ow hx))
        have z59 := grown_far z58 g59 (fun x hx => own_base ow hx)
        show wpList _ _ _ (_ :: _) _ _
        refine chainK 1 (cc rfl (p_faV0 fa_39_1 g0 (od rfl id)) cn) (by kernel_rfl) s59 fun a60 w60 b60 s60 => ?_
        have z60 := only_trans z59 (only_of_below b60 (some g))
        have rd := rd.below b60
        have k2 := k2.below b60 k2.lt
        have k3 := k3.below b60 k3.lt
        have ow2 := own_below ow2 b60
        show wpList _ _ _ (_ :: _) _ _
        refine cell_on (e2 := LXE g g2 g3 n i) 40 39 id s60 rfl rfl rfl rfl rfl k3 (Nat.lt_succ_self 1) (slice_one ow2).2 (by kernel_rfl) (slice_one ow2).1 (vv 5 rfl (vv 0 rfl (vv 2 rfl (vv 3 rfl (vv 4 rfl vn))))) fun a61 w61 k3x hw61 s61 => wpList_done ?_
        have g61 : w60.grownBy w61 (some g3) := by rw [hw61]; exact only_setCells [v2] 1 (only_refl _ _)
        have ow2 := own_grown3 ow2 g61 (own_ne ow2 k3 (by decide))
        have k3 := k3x
        have k2 := k2.grown g61 (by simp; omega)
        have rd := rd_grownO rd g61 (fun x e => by cases e; omega)
        have z61 := grown_far z60 g61 (fun x e => by cases e; exact hg3)
        refine flowT (s61.keep (sc 0 rfl (sc 2 rfl (sc 3 rfl (sc 4 rfl (sc 5 rfl sn)))))) (by kernel_rfl) (cc rfl (p_move g0 (od rfl id))
            (cc rfl (p_bin g0 (od rfl id) (oc _) (inc_3 (by omega)))
            (cc rfl (p_assign g0 (od rfl id)) cn))) fun a62 w62 b62 s62 => ?_
        have z62 := only_trans z61 (only_of_below b62 (some g))
        have rd := rd.below b62
        have k2 := k2.below b62 k2.lt
        have k3 := k3.below b62 k3.lt
        have ow2 := own_below ow2 b62
        exact ⟨hin, v2, _, _, ⟨rd, k2, k3, by rw [List.length_append, List.flatMap_append]; exact ow2, hgo, by simp [hlen], hin, z62⟩, s62.to _ ⟨rfl, rfl, rfl, rfl, rfl, True.intro⟩⟩
      · -- false
        have hbad : s.2 = true := by simpa using h25
        rw [rdP_bad hbad] at heq
        refine wp_exit ?_
        refine wp_seq ?_
        refine wp_seq ?_
        have e3 := s54.get 3 rfl
        have s54 := s54.more 3 (y := .both (.val (.pointer (some ⟨g3, 0, none⟩))) (.at rawL ⟨(nx bs (k, b) 1).1, ps⟩)) ⟨e3, by rw [show _ = _ from e3]; exact at_of_blk k3 (raw_of_own ow hg) (fun o hf => by unfold AtB at hf; simp only at hf; omega)⟩
        refine wp_region_lit ?_
        refine chainK 1 (cc rfl (p_move g0 (od rfl id)) cn) (by kernel_rfl) (s54.keep (sc 0 rfl (sc 2 rfl (sc 3 rfl sn)))) fun a63 w63 b63 s63 => ?_
        have z63 := only_trans z54 (only_of_below b63 (some g))
        have rd := rd.below b63
        have k2 := k2.below b63 k2.lt
        have k3 := k3.below b63 k3.lt
        have ow := own_below ow b63
        show wpList _ _ _ (_ :: _) _ _
        have q41 : a63.tmps.getD 41 undef = .pointer (some ⟨g, 0, none⟩) := s63.get 41 rfl
        refine rd_on [.tmp 41] s63 (fun _ => rfl) (by simp [Region.wanted]) (fun _ _ => by kernel_rfl) rfl (by decide) (show Calls Try.prog 33 #[a63.tmps.getD 41 undef] w63 _ from by rw [q41]; exact cBad rd) fun a64 w64 rd g64 s64 => ?_
        have k2 := k2.grown g64 (by simp; omega)
        have k3 := k3.grown g64 (by simp; omega)
        have ow := own_grown ow g64 hg
        have z64 := only_trans z63 g64
        refine chainT (t := []) (cc rfl (p_move g0 (od rfl id))
            (cc rfl (p_load Try.underlying39 rfl sz_39 (g1 rfl rfl) (od2 rfl (fun _ => rfl)))
            (cc rfl (p_call 49 (g1 rfl rfl) (ox (od rfl id) ox0) (fun _ _ => by kernel_rfl) (f49r (by show ps.length ≤ 100000; omega)))
            (cc rfl (p_not (g1 rfl rfl) (od rfl id))
            (cc rfl (p_or g0 (od rfl id) (od rfl id)) cn))))) (by kernel_rfl) s64 fun a65 w65 b65 s65 => wpList_done ?_
        have z65 := only_trans z64 (only_of_below b65 (some g))
        have rd := rd.below b65
        have k2 := k2.below b65 k2.lt
        have k3 := k3.below b65 k3.lt
        have ow := own_below ow b65
        refine s65.cond 47 rfl (fun h47 => ?_) (fun h47 => ?_)
        · -- true
          have hcond : s.2 = true ∨ rightB ⟨(nx bs (k, b) 1).1, ps⟩ = false := by simpa using h47
          refine wp_seq ?_
          refine wp_region_lit ?_
          refine chainK 1 (cc rfl (p_move g0 (od rfl id)) cn) (by kernel_rfl) (s65.keep (sc 0 rfl (sc 2 rfl (sc 3 rfl sn)))) fun a66 w66 b66 s66 => ?_
          have z66 := only_trans z65 (only_of_below b66 (some g))
          have rd := rd.below b66
          have k2 := k2.below b66 k2.lt
          have k3 := k3.below b66 k3.lt
          have ow := own_below ow b66
          show wpList _ _ _ (_ :: _) _ _
          have q48 : a66.tmps.getD 48 undef = .pointer (some ⟨g, 0, none⟩) := s66.get 48 rfl
          refine rd_on [.tmp 48] s66 (fun _ => rfl) (by simp [Region.wanted]) (fun _ _ => by kernel_rfl) rfl (by decide) (show Calls Try.prog 39 #[a66.tmps.getD 48 undef] w66 _ from by rw [q48]; exact cFail rd) fun a67 w67 rd g67 s67 => ?_
          have k2 := k2.grown g67 (by simp; omega)
          have k3 := k3.grown g67 (by simp; omega)
          have ow := own_grown ow g67 hg
          have z67 := only_trans z66 g67
          refine wpList_done ?_
          refine wp_seq ?_
          refine wp_region_lit ?_
          refine chainK 1 (cc rfl (p_done bz39 (y := .val (.agg #[.int .i64 0, .slice none 0 0])) (fun _ _ => rfl) g0) cn) (by kernel_rfl) (s67.keep (sc 2 rfl sn)) fun a68 w68 b68 s68 => ?_
          have z68 := only_trans z67 (only_of_below b68 (some g))
          have rd := rd.below b68
          have k2 := k2.below b68 k2.lt
          have k3 := k3.below b68 k3.lt
          have ow := own_below ow b68
          show wpList _ _ _ (_ :: _) _ _
          have hnow := own_ne ow k2 (by decide)
          refine store_on (cs := #[.int .i64 0, .slice none 0 0]) 2 50 s68 rfl rfl rfl (s68.get 50 rfl) rfl k2 rfl sz_39 (by simp [Value.oneCell']) s68.fok id (vv 2 rfl vn) fun a69 w69 k2 g69 s69 => ?_
          have ow := own_grown3 ow g69 hnow
          have rd := rd_grownO rd g69 (fun x e => by cases e; omega)
          have k3 := k3.grown g69 (by simp; omega)
          have z69 := grown_far z68 g69 (fun x e => by cases e; exact hg2)
          refine wpList_done ?_
          have hX : labX bs (k, b) = (⟨0, []⟩, (s.1, true)) := by unfold labX; rw [hn, Int.toNat_natCast, ← heq, if_pos hcond]
          rw [hX]
          refine wp_ret (then_ret ?_)
          exact bodyPost_ret (results_cell_row rfl _ _ g2 39 #[.int .i64 0, .slice none 0 0] (0, 0) _ (s69.get 2 rfl) k2 Try.underlying39 rfl (by kernel_rfl)) s69.defers ⟨.slice none 0 0, rfl, World.ownsRow_nil _ _ _ _, rd, z69⟩
        · -- false
          have hcond : ¬ (s.2 = true ∨ rightB ⟨(nx bs (k, b) 1).1, ps⟩ = false) := by simpa using h47
          refine wp_skip ?_
          refine wp_seq ?_
          have hx := ex_ok (nx bs (k, b) 1).1 ow
          have e3 := (s65.get 3 rfl).1
          have s65 := s65.more 3 (y := .both (.val (.pointer (some ⟨g3, 0, none⟩))) (.at (Lay.exact [.int .i64 (nx bs (k, b) 1).1, v] hx) ())) ⟨e3, by rw [show _ = _ from e3]; exact at_of_blk k3 rfl (fun o hf => by unfold AtB at hf; simp only at hf; omega)⟩
          refine wp_region_lit ?_
          refine chainK 1 (cc rfl (p_load Try.underlying39 rfl sz_39 g0 (od2 rfl id)) cn) (by kernel_rfl) (s65.keep (sc 2 rfl (sc 3 rfl sn))) fun a70 w70 b70 s70 => ?_
          have z70 := only_trans z65 (only_of_below b70 (some g))
          have rd := rd.below b70
          have k2 := k2.below b70 k2.lt
          have k3 := k3.below b70 k3.lt
          have ow := own_below ow b70
          show wpList _ _ _ (_ :: _) _ _
          obtain ⟨cs51, q51, e51⟩ := s70.get 51 rfl
          obtain rfl : cs51 = [.int .i64 (nx bs (k, b) 1).1, v] := e51
          have hnow := own_ne ow k2 (by decide)
          refine store_on (cs := #[.int .i64 (nx bs (k, b) 1).1, v]) 2 51 s70 rfl rfl rfl q51 rfl k2 rfl sz_39 (all_arr hx) s70.fok id (vv 2 rfl vn) fun a71 w71 k2 g71 s71 => ?_
          have ow := own_grown3 ow g71 hnow
          have rd := rd_grownO rd g71 (fun x e => by cases e; omega)
          have k3 := k3.grown g71 (by simp; omega)
          have z71 := grown_far z70 g71 (fun x e => by cases e; exact hg2)
          refine wpList_done ?_
          have hX : labX bs (k, b) = (⟨(nx bs (k, b) 1).1, ps⟩, s) := by unfold labX; rw [hn, Int.toNat_natCast, ← heq, if_neg hcond]
          rw [hX]
          refine wp_ret ?_
          exact bodyPost_ret (results_cell_row rfl _ _ g2 39 #[.int .i64 (nx bs (k, b) 1).1, v] (0, 0) _ (s71.get 2 rfl) k2 Try.underlying39 rfl (by kernel_rfl)) s71.defers ⟨v, rfl, ow, rd, z71⟩
    · -- out
      refine wp_region_lit ?_
      refine chainK 4 (cc rfl (p_move g0 (od rfl id))
          (cc rfl (p_move g0 (od rfl id))
          (cc rfl (p_bin g0 (od rfl id) (od rfl id) b_lss_3)
          (cc rfl (p_move g0 (od rfl id)) cn)))) (by kernel_rfl) (s50.keep (sc 0 rfl (sc 2 rfl (sc 3 rfl (sc 4 rfl (sc 5 rfl sn)))))) fun a72 w72 b72 s72 => ?_
      have z72 := only_trans z50 (only_of_below b72 (some g))
      have rd := rd.below b72
      have k2 := k2.below b72 k2.lt
      have k3 := k3.below b72 k3.lt
      have ow := own_below ow b72
      have s72 := s72.more 21 (y := .bool false) (bool_as (s72.get 21 rfl) (by simp; omega))
      refine chainK 1 (cc rfl (p_move (g1 rfl rfl) (od rfl (fun _ => rfl))) cn) (by kernel_rfl) s72 fun a73 w73 b73 s73 => ?_
      have z73 := only_trans z72 (only_of_below b73 (some g))
      have rd := rd.below b73
      have k2 := k2.below b73 k2.lt
      have k3 := k3.below b73 k3.lt
      have ow := own_below ow b73
      show wpList _ _ _ (_ :: _) _ _
      refine rd_off (.bool true) s73 (Eq.trans (s73.wanted (g1 rfl rfl) rfl) rfl) rfl (by decide) fun a74 s74 => ?_
      have z74 := z73
      refine chainT (t := []) (cc rfl (p_not (g1 rfl rfl) (od rfl id))
          (cc rfl (p_and g0 (od rfl id) (od rfl id)) cn)) (by kernel_rfl) s74 fun a75 w75 b75 s75 => wpList_done ?_
      have z75 := only_trans z74 (only_of_below b75 (some g))
      have rd := rd.below b75
      have k2 := k2.below b75 k2.lt
      have k3 := k3.below b75 k3.lt
      have ow := own_below ow b75
      rw [show n - i = 0 by omega, rdP] at heq
      refine s75.cond 25 rfl (fun h => absurd h (by simp)) fun _ => ?_
      refine wp_exit ?_
      refine wp_seq ?_
      refine wp_seq ?_
      have e3 := s75.get 3 rfl
      have s75 := s75.more 3 (y := .both (.val (.pointer (some ⟨g3, 0, none⟩))) (.at rawL ⟨(nx bs (k, b) 1).1, ps⟩)) ⟨e3, by rw [show _ = _ from e3]; exact at_of_blk k3 (raw_of_own ow hg) (fun o hf => by unfold AtB at hf; simp only at hf; omega)⟩
      refine wp_region_lit ?_
      refine chainK 1 (cc rfl (p_move g0 (od rfl id)) cn) (by kernel_rfl) (s75.keep (sc 0 rfl (sc 2 rfl (sc 3 rfl sn)))) fun a76 w76 b76 s76 => ?_
      have z76 := only_trans z75 (only_of_below b76 (some g))
      have rd := rd.below b76
      have k2 := k2.below b76 k2.lt
      have k3 := k3.below b76 k3.lt
      have ow := own_below ow b76
      show wpList _ _ _ (_ :: _) _ _
      have q41 : a76.tmps.getD 41 undef = .pointer (some ⟨g, 0, none⟩) := s76.get 41 rfl
      refine rd_on [.tmp 41] s76 (fun _ => rfl) (by simp [Region.wanted]) (fun _ _ => by kernel_rfl) rfl (by decide) (show Calls Try.prog 33 #[a76.tmps.getD 41 undef] w76 _ from by rw [q41]; exact cBad rd) fun a77 w77 rd g77 s77 => ?_
      have k2 := k2.grown g77 (by simp; omega)
      have k3 := k3.grown g77 (by simp; omega)
      have ow := own_grown ow g77 hg
      have z77 := only_trans z76 g77
      refine chainT (t := []) (cc rfl (p_move g0 (od rfl id))
          (cc rfl (p_load Try.underlying39 rfl sz_39 (g1 rfl rfl) (od2 rfl (fun _ => rfl)))
          (cc rfl (p_call 49 (g1 rfl rfl) (ox (od rfl id) ox0) (fun _ _ => by kernel_rfl) (f49r (by show ps.length ≤ 100000; omega)))
          (cc rfl (p_not (g1 rfl rfl) (od rfl id))
          (cc rfl (p_or g0 (od rfl id) (od rfl id)) cn))))) (by kernel_rfl) s77 fun a78 w78 b78 s78 => wpList_done ?_
      have z78 := only_trans z77 (only_of_below b78 (some g))
      have rd := rd.below b78
      have k2 := k2.below b78 k2.lt
      have k3 := k3.below b78 k3.lt
      have ow := own_below ow b78
      refine s78.cond 47 rfl (fun h47 => ?_) (fun h47 => ?_)
      · -- true
        have hcond : s.2 = true ∨ rightB ⟨(nx bs (k, b) 1).1, ps⟩ = false := by simpa using h47
        refine wp_seq ?_
        refine wp_region_lit ?_
        refine chainK 1 (cc rfl (p_move g0 (od rfl id)) cn) (by kernel_rfl) (s78.keep (sc 0 rfl (sc 2 rfl (sc 3 rfl sn)))) fun a79 w79 b79 s79 => ?_
        have z79 := only_trans z78 (only_of_below b79 (some g))
        have rd := rd.below b79
        have k2 := k2.below b79 k2.lt
        have k3 := k3.below b79 k3.lt
        have ow := own_below ow b79
        show wpList _ _ _ (_ :: _) _ _
        have q48 : a79.tmps.getD 48 undef = .pointer (some ⟨g, 0, none⟩) := s79.get 48 rfl
        refine rd_on [.tmp 48] s79 (fun _ => rfl) (by simp [Region.wanted]) (fun _ _ => by kernel_rfl) rfl (by decide) (show Calls Try.prog 39 #[a79.tmps.getD 48 undef] w79 _ from by rw [q48]; exact cFail rd) fun a80 w80 rd g80 s80 => ?_
        have k2 := k2.grown g80 (by simp; omega)
        have k3 := k3.grown g80 (by simp; omega)
        have ow := own_grown ow g80 hg
        have z80 := only_trans z79 g80
        refine wpList_done ?_
        refine wp_seq ?_
        refine wp_region_lit ?_
        refine chainK 1 (cc rfl (p_done bz39 (y := .val (.agg #[.int .i64 0, .slice none 0 0])) (fun _ _ => rfl) g0) cn) (by kernel_rfl) (s80.keep (sc 2 rfl sn)) fun a81 w81 b81 s81 => ?_
        have z81 := only_trans z80 (only_of_below b81 (some g))
        have rd := rd.below b81
        have k2 := k2.below b81 k2.lt
        have k3 := k3.below b81 k3.lt
        have ow := own_below ow b81
        show wpList _ _ _ (_ :: _) _ _
        have hnow := own_ne ow k2 (by decide)
        refine store_on (cs := #[.int .i64 0, .slice none 0 0]) 2 50 s81 rfl rfl rfl (s81.get 50 rfl) rfl k2 rfl sz_39 (by simp [Value.oneCell']) s81.fok id (vv 2 rfl vn) fun a82 w82 k2 g82 s82 => ?_
        have ow := own_grown3 ow g82 hnow
        have rd := rd_grownO rd g82 (fun x e => by cases e; omega)
        have k3 := k3.grown g82 (by simp; omega)
        have z82 := grown_far z81 g82 (fun x e => by cases e; exact hg2)
        refine wpList_done ?_
        have hX : labX bs (k, b) = (⟨0, []⟩, (s.1, true)) := by unfold labX; rw [hn, Int.toNat_natCast, ← heq, if_pos hcond]
        rw [hX]
        refine wp_ret (then_ret ?_)
        exact bodyPost_ret (results_cell_row rfl _ _ g2 39 #[.int .i64 0, .slice none 0 0] (0, 0) _ (s82.get 2 rfl) k2 Try.underlying39 rfl (by kernel_rfl)) s82.defers ⟨.slice none 0 0, rfl, World.ownsRow_nil _ _ _ _, rd, z82⟩
      · -- false
        have hcond : ¬ (s.2 = true ∨ rightB ⟨(nx bs (k, b) 1).1, ps⟩ = false) := by simpa using h47
        refine wp_skip ?_
        refine wp_seq ?_
        have hx := ex_ok (nx bs (k, b) 1).1 ow
        have e3 := (s78.get 3 rfl).1
        have s78 := s78.more 3 (y := .both (.val (.pointer (some ⟨g3, 0, none⟩))) (.at (Lay.exact [.int .i64 (nx bs (k, b) 1).1, v] hx) ())) ⟨e3, by rw [show _ = _ from e3]; exact at_of_blk k3 rfl (fun o hf => by unfold AtB at hf; simp only at hf; omega)⟩
        refine wp_region_lit ?_
        refine chainK 1 (cc rfl (p_load Try.underlying39 rfl sz_39 g0 (od2 rfl id)) cn) (by kernel_rfl) (s78.keep (sc 2 rfl (sc 3 rfl sn))) fun a83 w83 b83 s83 => ?_
        have z83 := only_trans z78 (only_of_below b83 (some g))
        have rd := rd.below b83
        have k2 := k2.below b83 k2.lt
        have k3 := k3.below b83 k3.lt
        have ow := own_below ow b83
        show wpList _ _ _ (_ :: _) _ _
        obtain ⟨cs51, q51, e51⟩ := s83.get 51 rfl
        obtain rfl : cs51 = [.int .i64 (nx bs (k, b) 1).1, v] := e51
        have hnow := own_ne ow k2 (by decide)
        refine store_on (cs := #[.int .i64 (nx bs (k, b) 1).1, v]) 2 51 s83 rfl rfl rfl q51 rfl k2 rfl sz_39 (all_arr hx) s83.fok id (vv 2 rfl vn) fun a84 w84 k2 g84 s84 => ?_
        have ow := own_grown3 ow g84 hnow
        have rd := rd_grownO rd g84 (fun x e => by cases e; omega)
        have k3 := k3.grown g84 (by simp; omega)
        have z84 := grown_far z83 g84 (fun x e => by cases e; exact hg2)
        refine wpList_done ?_
        have hX : labX bs (k, b) = (⟨(nx bs (k, b) 1).1, ps⟩, s) := by unfold labX; rw [hn, Int.toNat_natCast, ← heq, if_neg hcond]
        rw [hX]
        refine wp_ret ?_
        exact bodyPost_ret (results_cell_row rfl _ _ g2 39 #[.int .i64 (nx bs (k, b) 1).1, v] (0, 0) _ (s84.get 2 rfl) k2 Try.underlying39 rfl (by kernel_rfl)) s84.defers ⟨v, rfl, ow, rd, z84⟩

end Go.Proofs.Ytihddficgpjgpaa.Y
