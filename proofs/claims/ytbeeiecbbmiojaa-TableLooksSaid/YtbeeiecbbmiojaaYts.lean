/- Yts: (*Table).Remove -/
import Derived.Test.YtbeeiecbbmiojaaYtr
namespace Go.Proofs.Ytbeeiecbbmiojaa.Y
open Go.RowKit Go.ChangeShapes Go.WideShapes Go.ChangeAt Go.ChangeMaps Go.MapKept

theorem tab_row {w : World} {B B' gT gM n : Nat} {t : Tab} {kv : Nat → Value} {u : Value} {xs : List Value} (h : TabAt w B gT gM t kv) (hr : w.ownsRow B' 27 1 u n xs) : ∀ i, TabB gT gM t kv i → u.ownBlock ≠ some i := fun i hi => by
  rcases hi with rfl | rfl | ⟨g, o, h1, rfl | h2 | ⟨on, h2⟩⟩
  · exact row_ne h.tb hr (by decide)
  · exact row_map h.mp hr
  · exact row_ne (h.ob _ _ h1).blk hr (by decide)
  · obtain ⟨_, cs, hb⟩ := own_row_blk (h.ob _ _ h1).row h2
    exact row_ne hb hr (by decide)
  · exact row_ne ((h.ob _ _ h1).th _ _ h2).1 hr (by decide)
theorem wp_cut {P : Program} {c1 c2 : Code} {Q : Exit → Act → World → Prop} {a : Act} {w : World} (M : Act → World → Prop) (h1 : c1.wp P (Exit.then M Q) a w) (h2 : ∀ a w, M a w → c2.wp P Q a w) : (Code.seq c1 c2).wp P Q a w := by
  refine wp_seq ?_
  refine Code.wp_mono (fun e a' w' q => ?_) h1
  cases e with
  | normal => exact h2 a' w' q
  | _ => exact q
set_option maxRecDepth 100000 in
/-- An object and all that is in it are gone. -/
theorem cRem {w : World} {B gT gM : Nat} {t : Tab} {kv : Nat → Value} (hT : TabAt w B gT gM t kv) {n : Int} {g : Nat} {o : TO} {tm' : List (Int × Nat)} {out' : List Nat} {f : Nat} (hok : t.Ok) (hl : ∀ x q, t.ob x = some q → q.kids.length ≤ 100000) (hgl : t.tm.lookup n = some g) (ho : t.ob g = some o) (hr : remL (remO t n o) f t.tm [g] 0 = some (tm', out')) (hout : out'.length ≤ 100000) : Calls Try.prog 16 #[ptrV gT, .int .u64 n] w fun e w' => ∃ v, e = .returned v ∧ ∃ kv', w'.ownsRow w.heap.size 27 1 v out'.length (out'.flatMap pE) ∧ TabAt w' B gT gM ⟨tm', remO t n o⟩ kv' ∧ OnlyB (TabB gT gM t kv) w w' ∧ ∀ i, TabB gT gM ⟨tm', remO t n o⟩ kv' i → TabB gT gM t kv i ∨ w.heap.size ≤ i := by
  obtain ⟨i0, hi0, hz0, hz1, hz2⟩ := info_parts Try.info27
  have z0 : OnlyB (fun _ => False) w w := OnlyB.refl _ _
  go_enter Try.func16, Try.ntmps16
  refine wp_seq ?_
  refine wp_region_lit ?_
  refine with_st (st0 (U := False) (N := 82) (e := [(0, true, .val (ptrV gT)), (1, true, .val (.int .u64 n))]) (F := noF) rfl rfl (fok_no _ _) ⟨⟨rfl, rfl⟩, ⟨⟨rfl, rfl⟩, True.intro⟩⟩) fun s0 => ?_
  show wpList _ _ _ (_ :: _) _ _
  refine alloc_on (u := 28) (z := #[.int .u64 n]) s0 (by simp [Region.wanted]) rfl (by decide) (bx_28 _ _ (s0.get 1 rfl)) (vv 0 rfl vn) fun gb a1 w1 hb hgb b1 s1 => ?_
  have z1 := z0.below b1
  have hT := hT.below b1
  refine chainK 1 (cc rfl (p_assign g0 (oc _)) cn) (by kernel_rfl) s1 fun a2 w2 b2 s2 => ?_
  have z2 := z1.below b2
  have hT := hT.below b2
  have hb := hb.below b2 hb.lt
  refine wpList_done ?_
  refine wp_seq ?_
  have s2 := s2.more 0 (y := .tab gT gM 104 t.vals) (at_tab hT (s2.get 0 rfl))
  have s2 := s2.more 3 (y := .bp gb 28 #[.int .u64 n] 0) (at_obj hb (s2.get 3 rfl))
  refine flowC mixed (s2.keep (sc 0 rfl (sc 3 rfl (sc 4 rfl sn)))) (by kernel_rfl) (by kernel_rfl) (cc rfl (p_move g0 (od rfl id))
      (cc rfl (p_nilT g0 (od rfl id))
      (cc rfl (p_faT fa_104_0 g0 (od rfl id))
      (cc rfl (p_ldT ld_102 g0 (od rfl id))
      (cc rfl (p_ldB ld_28 rfl g0 (od rfl id))
      (cc rfl (p_lookO Try.underlying102 Try.underlying28 zero27 (tab_look _ _) g0 (od rfl id) (od rfl id))
      (cc rfl (p_assign g0 (od rfl id)) cn))))))) fun a3 w3 b3 s3 => ?_
  have z3 := z2.below b3
  have hT := hT.below b3
  have hb := hb.below b3 hb.lt
  rw [hgl] at s3
  have s3 := s3.more 5 (y := .bp g 48 (toC o (kv g)) 0) (at_obj (hT.ob _ _ ho).blk (s3.get 5 rfl))
  refine wp_seq ?_
  refine wp_seq ?_
  refine flowC mixed (s3.keep (sc 0 rfl (sc 3 rfl (sc 4 rfl (sc 5 rfl sn))))) (by kernel_rfl) (by kernel_rfl) (cc rfl (p_move g0 (od rfl id))
      (cc rfl (p_eqB g0 (od rfl id)) cn)) fun a4 w4 b4 s4 => ?_
  have z4 := z3.below b4
  have hT := hT.below b4
  have hb := hb.below b4 hb.lt
  refine s4.cond 18 rfl (fun h => absurd h (by simp)) fun _ => ?_
  refine wp_skip ?_
  refine wp_cut (fun a wr => ∃ kv2, TabAt wr B gT gM ⟨t.tm, remO t n o⟩ kv2 ∧ OnlyB (TabB gT gM t kv) w wr ∧ (∀ i, TabB gT gM ⟨t.tm, remO t n o⟩ kv2 i → TabB gT gM t kv i ∨ w.heap.size ≤ i) ∧ StE False 82 [(0, true, .val (ptrV gT)), (5, true, .val (ptrV g))] noF a wr) ?_ ?_
  · -- the container
    refine wp_seq ?_
    refine flowC mixed (s4.keep (sc 0 rfl (sc 3 rfl (sc 4 rfl (sc 5 rfl sn))))) (by kernel_rfl) (by kernel_rfl) (cc rfl (p_move g0 (od rfl id))
        (cc rfl (p_nilT g0 (od rfl id))
        (cc rfl (p_faT fa_104_0 g0 (od rfl id))
        (cc rfl (p_ldT ld_102 g0 (od rfl id))
        (cc rfl (p_move g0 (od rfl id))
        (cc rfl (p_nilB g0 (od rfl id))
        (cc rfl (p_faB fa_48_4 g0 (od rfl id))
        (cc rfl (p_ldB ld_28 rfl g0 (od rfl id))
        (cc rfl (p_lookO Try.underlying102 Try.underlying28 zero27 (tab_look _ _) g0 (od rfl id) (od rfl id))
        (cc rfl (p_assign g0 (od rfl id)) cn)))))))))) fun a5 w5 b5 s5 => ?_
    have z5 := z4.below b5
    have hT := hT.below b5
    have hb := hb.below b5 hb.lt
    have s5 := s5.more 0 (y := .val (ptrV gT)) (s5.get 0 rfl).1
    refine wp_seq ?_
    cases hh : t.tm.lookup o.home with
    | none =>
      rw [hh] at s5
      have eO : remO t n o = t.ob := by unfold remO; rw [home_none hh]
      refine flowC mixed (s5.keep (sc 0 rfl (sc 3 rfl (sc 4 rfl (sc 5 rfl (sc 6 rfl sn)))))) (by kernel_rfl) (by kernel_rfl) (cc rfl (p_move g0 (od rfl id))
          (cc rfl (p_bin g0 (od rfl id) (oc _) b_neP) cn)) fun a6 w6 b6 s6 => ?_
      have z6 := z5.below b6
      have hT := hT.below b6
      have hb := hb.below b6 hb.lt
      refine s6.cond 29 rfl (fun h => absurd h (by simp)) fun _ => ?_
      refine wp_skip ?_
      have s6 := s6.more 5 (y := .val (ptrV g)) (s6.get 5 rfl).1
      exact ⟨kv, by rw [eO]; exact hT, z6.mono (fun _ _ h => h.elim), fun i hi => .inl (by rw [eO] at hi; exact hi), s6.vals (fok_no _ _) (vv 0 rfl (vv 5 rfl vn))⟩
    | some gh =>
      obtain ⟨q, hq, _⟩ := hok _ _ hh
      rw [hh] at s5
      have eO : remO t n o = upd t.ob gh (some { q with kids := q.kids.filter (· != n) }) := by unfold remO; rw [home_some hh hq]
      have s5 := s5.more 6 (y := .bp gh 48 (toC q (kv gh)) 0) (at_obj (hT.ob _ _ hq).blk (s5.get 6 rfl))
      refine flowC mixed (s5.keep (sc 0 rfl (sc 3 rfl (sc 4 rfl (sc 5 rfl (sc 6 rfl sn)))))) (by kernel_rfl) (by kernel_rfl) (cc rfl (p_move g0 (od rfl id))
          (cc rfl (p_neB g0 (od rfl id)) cn)) fun a7 w7 b7 s7 => ?_
      have z7 := z5.below b7
      have hT := hT.below b7
      have hb := hb.below b7 hb.lt
      refine s7.cond 29 rfl (fun _ => ?_) (fun h => absurd h (by simp))
      refine wp_region_lit ?_
      refine with_st (s7.keep (sc 0 rfl (sc 3 rfl (sc 5 rfl (sc 6 rfl sn))))) fun s7 => ?_
      refine chainK 5 (cc rfl (p_move g0 (od rfl id))
          (cc rfl (p_move g0 (od rfl id))
          (cc rfl (p_nilB g0 (od rfl id))
          (cc rfl (p_faB fa_48_9 g0 (od rfl id))
          (cc rfl (p_ldB ld_29 rfl g0 (od rfl id)) cn))))) (by kernel_rfl) s7 fun a8 w8 b8 s8 => ?_
      have z8 := z7.below b8
      have hT := hT.below b8
      have hb := hb.below b8 hb.lt
      show wpList _ _ _ (_ :: _) _ _
      have hrow := (hT.ob _ _ hq).row
      have hlq := hl _ _ hq
      have zs := z8.size
      have hBs := Nat.le_of_lt (Nat.lt_of_le_of_lt hT.bT hT.tb.lt)
      have s8 := s8.more 0 (y := .val (ptrV gT)) (s8.get 0 rfl)
      have s8 := s8.more 5 (y := .val (ptrV g)) (s8.get 5 rfl).1
      have s8 := s8.more 30 (y := .val (ptrV gh)) (s8.get 30 rfl).1
      have s8 := s8.more 3 (y := .val (ptrV gb)) (s8.get 3 rfl).1
      refine callO (R := fun v w' => w'.ownsRow w8.heap.size 28 1 v q.kids.length (q.kids.flatMap kE) ∧ Below w8.heap.size w8 w') [.tmp 34] s8 (by simp [Region.wanted]) (fun _ _ => by kernel_rfl) rfl (by decide) (show Calls Try.prog 39 #[a8.tmps.getD 34 undef] w8 _ from by rw [show a8.tmps.getD 34 undef = kv gh from s8.get 34 rfl]; exact clone_own (by omega) hrow) (vv 0 rfl (vv 3 rfl (vv 5 rfl (vv 30 rfl vn)))) fun vc a9 w9 hR9 s9 => ?_
      obtain ⟨hc, bX⟩ := hR9
      have hcb : vc.ownBlock ≠ some gb := fun e => Nat.lt_irrefl _ (Nat.lt_of_lt_of_le hb.lt (own_base hc e))
      have hb := hb.below bX hb.lt
      have z9 := z8.below bX
      refine chainK 1 (cc rfl (p_clo g0 (od rfl id)) cn) (by kernel_rfl) s9 fun a10 w10 b10 s10 => ?_
      have z10 := z9.below b10
      have hb := hb.below b10 hb.lt
      have hc := own_below hc b10
      have bX := bX.trans (b10.mono bX.size)
      show wpList _ _ _ (_ :: _) _ _
      refine callO (R := fun v w' => w'.ownsRow w8.heap.size 28 1 v (q.kids.filter (nq n)).length ((q.kids.filter (nq n)).flatMap kE) ∧ w10.grownBy w' vc.ownBlock ∧ v.ownBlock = vc.ownBlock) [.tmp 35, .tmp 36] s10 (by simp [Region.wanted]) (fun _ _ => by kernel_rfl) rfl (by decide) (show Calls Try.prog 38 #[a10.tmps.getD 35 undef, a10.tmps.getD 36 undef] w10 _ from by rw [show a10.tmps.getD 35 undef = vc from s10.get 35 rfl, show a10.tmps.getD 36 undef = _ from s10.get 36 rfl]; exact cDel (by omega) hc hb hcb) (vv 0 rfl (vv 5 rfl (vv 30 rfl vn))) fun vd a11 w11 hR11 s11 => ?_
      obtain ⟨hd, gD, eD⟩ := hR11
      have hvd : ∀ x, vd.ownBlock = some x → w8.heap.size ≤ x := fun x hx => own_base hd hx
      have hbc : ∀ x, vc.ownBlock = some x → w8.heap.size ≤ x := fun x hx => own_base hc hx
      have bX := bX.grown gD bX.size hbc
      have z11 := z10.grown gD (fun x hx e => absurd (Nat.le_trans zs (hbc x e)) (Nat.not_le.2 hx))
      refine chainK 2 (cc rfl (p_nilV g0 (od rfl id))
          (cc rfl (p_faV0 fa_48_9 g0 (od rfl id)) cn)) (by kernel_rfl) s11 fun a12 w12 b12 s12 => ?_
      have z12 := z11.below b12
      have hd := own_below hd b12
      have bX := bX.trans (b12.mono bX.size)
      show wpList _ _ _ (_ :: _) _ _
      have hbl := (hT.ob _ _ hq).blk.below bX (hT.ob _ _ hq).blk.lt
      refine cells_on (vs := [vd]) s12 rfl rfl rfl (s12.get 39 rfl) (s12.get 37 rfl) (slice_one hd).2 hbl (by simp) sz_29 (fun u hu => by rw [List.mem_singleton.1 hu]; exact (slice_one hd).1) (vv 0 rfl (vv 5 rfl vn)) fun a13 w13 hbl2 gS s13 => ?_
      have hbl2 : Blk w13 gh 48 (toC { q with kids := q.kids.filter (nq n) } vd) := hbl2
      have z13 := (z12.mono (S' := TabB gT gM t kv) (fun _ _ h => h.elim)).grown gS (fun x _ e => .inr (.inr ⟨gh, q, hq, .inl (by injection e with e; exact e.symm)⟩))
      have hT := hT.kids hq (.inr bX) (own_mono hd hBs) (.inr hvd) hbl2 gS
      refine wpList_done ?_
      exact ⟨upd kv gh vd, by rw [eO]; exact hT, z13, fun i hi => by
        rw [eO] at hi
        rcases tabB_kids hq hi with h | h
        · exact .inl h
        · exact .inr (Nat.le_trans zs (hvd i h)), s13⟩
  · -- what goes
    rintro a14 w14 ⟨kv2, hT, z14, hTB, s14⟩
    refine wp_seq ?_
    refine wp_region_lit ?_
    refine with_st (s14.keep (sc 0 rfl (sc 5 rfl sn))) fun s14 => ?_
    refine chainK 1 (cc rfl (p_move g0 (od rfl id)) cn) (by kernel_rfl) s14 fun a15 w15 b15 s15 => ?_
    have z15 := z14.below b15
    have hT := hT.below b15
    show wpList _ _ _ (_ :: _) _ _
    refine lit_on (u := 27) (z := #[ptrV g]) s15 (by simp [Region.wanted]) rfl (by decide) (bs_49 _ _ (show _ = ptrV g from s15.get 40 rfl)) (vv 0 rfl vn) fun b1 a16 w16 hbo hb1 b16 s16 => ?_
    have hb1 := Nat.le_trans z15.size hb1
    have z16 := z15.below b16
    have hT := hT.below b16
    refine chainK 1 (cc rfl (p_assign g0 (od rfl id)) cn) (by kernel_rfl) s16 fun a17 w17 b17 s17 => ?_
    have z17 := z16.below b17
    have hT := hT.below b17
    have hbo := hbo.below b17 hbo.lt
    refine wpList_done ?_
    refine wp_seq ?_
    refine wp_seq ?_
    refine flowC mixed (s17.keep (sc 0 rfl (sc 7 rfl sn))) (by kernel_rfl) (by kernel_rfl) (cc rfl (p_assign g0 (oc _)) cn) fun a18 w18 b18 s18 => ?_
    have z18 := z17.below b18
    have hT := hT.below b18
    have hbo := hbo.below b18 hbo.lt
    refine wp_block ?_
    have hu := out_one hbo hb1
    refine wp_loopK (fun k a wr => ∃ f i tm out u, k = f ∧ remL (remO t n o) f tm out i = some (tm', out') ∧ wr.ownsRow w.heap.size 27 1 u out.length (out.flatMap pE) ∧ TabAt wr B gT gM ⟨tm, remO t n o⟩ kv2 ∧ OnlyB (TabB gT gM t kv) w wr ∧ StE False 82 [(0, true, .val (ptrV gT)), (7, true, .val u), (8, true, .int .i64 (i : Int))] noF a wr) f ⟨f, 0, t.tm, [g], _, rfl, hr, hu, hT, z18, s18.to _ ⟨rfl, rfl, rfl, True.intro⟩⟩ fun k a19 w19 hI => ?_
    obtain ⟨f, i, tm, out, u, rfl, hr2, hu, hT, z19, s19⟩ := hI
    obtain ⟨A, c, rfl⟩ := own_slice hu
    refine wp_seq ?_
    refine wp_seq ?_
    refine flowC mixed (s19.keep (sc 0 rfl (sc 7 rfl (sc 8 rfl sn)))) (by kernel_rfl) (by kernel_rfl) (cc rfl (p_move g0 (od rfl id))
        (cc rfl (p_move g0 (od rfl id))
        (cc rfl (p_lenV ln_49 g0 (od rfl id))
        (cc rfl (p_bin g0 (od rfl id) (od rfl id) b_lss_3) cn)))) fun a20 w20 b20 s20 => ?_
    have z20 := z19.below b20
    have hT := hT.below b20
    have hu := own_below hu b20
    refine s20.cond 45 rfl (fun h45 => ?_) (fun h45 => ?_)
    · -- true
      have hil : i < out.length := by have := of_decide_eq_true h45; (try dsimp only at this); omega
      rcases remL_step hr2 with ⟨h1, _, _⟩ | ⟨f2, g2, o2, gs, rfl, hg2, ho2, hps, hr3⟩
      · omega
      have hlen := remL_len hr3
      rw [List.length_append] at hlen
      have hkg := (pops_at hps).1
      rcases hu.2 with ⟨_, h1⟩ | ⟨b, c2, cur, e, hBb, hbb, hnc, hcm, hcs, htake⟩
      · omega
      injection e with e1 e2 e3
      subst e1 e3
      have hbb : Blk _ b 27 cur := hbb
      refine wp_skip ?_
      refine wp_seq ?_
      refine wp_block ?_
      refine wp_seq ?_
      have hob := hT.ob g2 o2 ho2
      have s20 := s20.vals (F' := AtB gM) (fok_atO hT.mp.lt) (vv 0 rfl (vv 7 rfl (vv 8 rfl vn)))
      have s20 := s20.more 0 (y := .bp gT 104 #[.map (some gM)] 0) ⟨s20.get 0 rfl, hT.tb, fun _ h => map_ne hT.tb hT.mp h⟩
      have s20 := s20.more 7 (y := .rowO b out.length c i g2 cur (toC o2 (kv2 g2))) ⟨s20.get 7 rfl, hil, hbb, at_pE htake hg2, hob.blk, fun _ h => map_ne hbb hT.mp h, fun _ h => map_ne hob.blk hT.mp h⟩
      have s20 := s20.keep (sc 0 rfl (sc 7 rfl (sc 8 rfl sn)))
      refine flowEN 12 11 gM (fun wr => Below w20.heap.size w20 wr) (fun wr => MapAt wr gM .u64 (delA (tm.map fun p : Int × Nat => (p.1, ptrV p.2)) o2.name) ∧ w20.grownBy wr (some gM)) mixed s20 (fun _ => rfl) (Below.refl _ _) (fun h hb => h.trans (hb.mono h.size)) (fun h hb => ⟨h.1.below hb, only_trans h.2 (only_of_below hb _)⟩) (by kernel_rfl) rfl rfl (cc rfl (p_move g0 (od rfl id))
          (cc rfl (p_nilB g0 (od rfl id))
          (cc rfl (p_faB fa_104_0 g0 (od rfl id))
          (cc rfl (p_ldB ld_102 rfl g0 (od rfl id))
          (cc rfl (p_move g0 (od rfl id))
          (cc rfl (p_move g0 (od rfl id))
          (cc rfl (p_idxO g0 (od rfl id) (od rfl id))
          (cc rfl (p_ldO g0 (od rfl id))
          (cc rfl (p_nilB g0 (od rfl id))
          (cc rfl (p_faB fa_48_1 g0 (od rfl id))
          (cc rfl (p_ldB ld_28 rfl g0 (od rfl id)) cn))))))))))) (by kernel_rfl) (fun ac wc oc hoc hsz hf hknow hBel R hR => ?_) fun a21 w21 _ hG s21 => ?_
      · obtain rfl := Option.some.inj hoc
        have q51 : ac.tmps.getD 51 undef = .map (some gM) := (hknow 51 (List.contains_iff_mem.1 (by kernel_rfl)) _ rfl).1 rfl
        have q58 : ac.tmps.getD 58 undef = .int .u64 o2.name := (hknow 58 (List.contains_iff_mem.1 (by kernel_rfl)) _ rfl).1 rfl
        rw [if_pos (by simp [Region.wanted])]
        obtain ⟨w2, r1, r2, r3⟩ := run_drop (P := Try.prog) (hT.mp.below hBel) Try.underlying102 Try.underlying28 o2.name 0
        have q51 : ac.eval (.tmp 51) = .map (some gM) := q51
        have q58 : ac.eval (.tmp 58) = .int .u64 o2.name := q58
        unfold Oper.wp execOp
        simp only [resolve, invoke, builtin, Sem.run_bind, Sem.run_pure, Result.andThen_ok, List.map_toArray, List.map_cons, List.map_nil, q51, q58, r1]
        exact hR _ w2 r3 (fun u => u.elim) ⟨r2, only_trans (only_of_below hBel _) r3⟩
      refine wpList_done ?_
      obtain ⟨hm, gM2⟩ := hG
      rw [del_vals] at hm
      have hu := own_grownR hu gM2 (.inr (row_map hT.mp hu))
      have hbb := hbb.grown gM2 (fun e => map_ne hbb hT.mp (by injection e))
      have hT := hT.put hm gM2
      have z21 := z20.grown gM2 (fun x _ e => .inr (.inl (by injection e with e; exact e.symm)))
      have s21 := s21.more 0 (y := .val (ptrV gT)) (s21.get 0 rfl).1
      have s21 := s21.more 7 (y := .val (.slice (some ⟨b, 0, none⟩) out.length c)) (s21.get 7 rfl).1
      have s21 := s21.vals (fok_no _ w21) (vv 0 rfl (vv 7 rfl (vv 8 rfl vn)))
      refine wp_seq ?_
      have hob := hT.ob g2 o2 ho2
      have s21 := s21.more 7 (y := .rowO b out.length c i g2 cur (toC o2 (kv2 g2))) (⟨(s21.get 7 rfl), hil, hbb, at_pE htake hg2, hob.blk, fun _ h => h, fun _ h => h⟩)
      refine flowC mixed (s21.keep (sc 0 rfl (sc 7 rfl (sc 8 rfl sn)))) (by kernel_rfl) (by kernel_rfl) (cc rfl (p_move g0 (od rfl id))
          (cc rfl (p_move g0 (od rfl id))
          (cc rfl (p_idxO g0 (od rfl id) (od rfl id))
          (cc rfl (p_ldO g0 (od rfl id))
          (cc rfl (p_nilB g0 (od rfl id))
          (cc rfl (p_faB fa_48_9 g0 (od rfl id))
          (cc rfl (p_ldB ld_29 rfl g0 (od rfl id))
          (cc rfl (p_lenW (own_slice hob.row) ln_29 g0 (od rfl id))
          (cc rfl (p_move g0 (oc _)) cn))))))))) fun a22 w22 b22 s22 => ?_
      have z22 := z21.below b22
      have hT := hT.below b22
      have hu := own_below hu b22
      have hbb := hbb.below b22 hbb.lt
      have s22 := s22.more 7 (y := .val (.slice (some ⟨b, 0, none⟩) out.length c)) (s22.get 7 rfl).1
      refine wp_block ?_
      refine wp_count o2.kids.length 67 (fun j a wr => ∃ u, wr.ownsRow w.heap.size 27 1 u (out ++ gs.take j).length ((out ++ gs.take j).flatMap pE) ∧ TabAt wr B gT gM ⟨delT tm o2.name, remO t n o⟩ kv2 ∧ OnlyB (TabB gT gM t kv) w wr ∧ StE False 82 [(0, true, .val (ptrV gT)), (7, true, .val u), (8, true, .int .i64 (i : Int)), (65, true, .val (kv2 g2)), (66, true, .int .i64 (o2.kids.length : Int)), (67, true, .int .i64 (j : Int))] noF a wr) (fun _ _ _ ⟨_, _, _, _, h⟩ => h.get 67 rfl) ⟨_, by rw [List.take_zero, List.append_nil]; exact hu, hT, z22, s22.to _ ⟨rfl, rfl, rfl, rfl, rfl, rfl, True.intro⟩⟩ fun j a23 w23 hj23 hI => ?_
      obtain ⟨u, hu, hT, z23, s23⟩ := hI
      refine wp_seq ?_
      refine flowC mixed (s23.keep (sc 0 rfl (sc 7 rfl (sc 8 rfl (sc 65 rfl (sc 66 rfl (sc 67 rfl sn))))))) (by kernel_rfl) (by kernel_rfl) (cc rfl (p_bin g0 (od rfl id) (od rfl id) b_lss_3) cn) fun a24 w24 b24 s24 => ?_
      have z24 := z23.below b24
      have hT := hT.below b24
      have hu := own_below hu b24
      refine wp_seq ?_
      refine s24.cond 68 rfl (fun h68 => ?_) (fun h68 => ?_)
      · -- true
        have hjl : j < o2.kids.length := by have := of_decide_eq_true h68; (try dsimp only at this); omega
        obtain ⟨kk, ek⟩ : ∃ x, o2.kids[j]? = some x := ⟨_, List.getElem?_eq_getElem hjl⟩
        obtain ⟨gk, hlk, hgk⟩ := (pops_at hps).2 j kk ek
        refine wp_skip ?_
        refine wp_seq ?_
        refine wp_block ?_
        refine wp_seq ?_
        have s24 := s24.more 65 (y := .both (.val (kv2 g2)) (.one (Lay.sl (Lay.int .u64)) o2.kids)) ⟨s24.get 65 rfl, by rw [show _ = kv2 g2 from s24.get 65 rfl]; exact sl_of_own kF (hT.ob g2 o2 ho2).row (F := noF) fun _ _ _ _ h => h⟩
        refine flowC mixed (s24.keep (sc 0 rfl (sc 7 rfl (sc 8 rfl (sc 65 rfl (sc 66 rfl (sc 67 rfl (sc 68 rfl sn)))))))) (by kernel_rfl) (by kernel_rfl) (cc rfl (p_index ix_29 ek g0 (od2 rfl id) (od rfl id))
            (cc rfl (p_loadI ld_28 g0 (od rfl id))
            (cc rfl (p_assign g0 (od rfl id)) cn))) fun a25 w25 b25 s25 => ?_
        have z25 := z24.below b25
        have hT := hT.below b25
        have hu := own_below hu b25
        have s25 := s25.more 65 (y := .val (kv2 g2)) (s25.get 65 rfl).1
        have s25 := s25.more 0 (y := .tab gT gM 104 (Tab.vals ⟨delT tm o2.name, remO t n o⟩)) (at_tab hT (s25.get 0 rfl))
        refine wp_region_lit ?_
        refine with_st (s25.keep (sc 0 rfl (sc 7 rfl (sc 8 rfl (sc 10 rfl (sc 65 rfl (sc 66 rfl (sc 67 rfl sn)))))))) fun s25 => ?_
        refine chainK 7 (cc rfl (p_move g0 (od rfl id))
            (cc rfl (p_move g0 (od rfl id))
            (cc rfl (p_nilT g0 (od rfl id))
            (cc rfl (p_faT fa_104_0 g0 (od rfl id))
            (cc rfl (p_ldT ld_102 g0 (od rfl id))
            (cc rfl (p_move g0 (od rfl id))
            (cc rfl (p_lookO Try.underlying102 Try.underlying28 zero27 (tab_look _ _) g0 (od rfl id) (od rfl id)) cn))))))) (by kernel_rfl) s25 fun a26 w26 b26 s26 => ?_
        have z26 := z25.below b26
        have hT := hT.below b26
        have hu := own_below hu b26
        show wpList _ _ _ (_ :: _) _ _
        rw [hlk] at s26
        have s26 := s26.more 0 (y := .val (ptrV gT)) (s26.get 0 rfl).1
        refine lit_on (u := 27) (z := #[ptrV gk]) s26 (by simp [Region.wanted]) rfl (by decide) (bs_49 _ _ (show _ = ptrV gk from s26.get 77 rfl)) (vv 0 rfl (vv 8 rfl (vv 65 rfl (vv 66 rfl (vv 67 rfl (vv 71 rfl vn)))))) fun bl a27 w27 hlt hbl b27 s27 => ?_
        have hbl := Nat.le_trans z26.size hbl
        have z27 := z26.below b27
        have hT := hT.below b27
        have hu := own_below hu b27
        show wpList _ _ _ (_ :: _) _ _
        have hnt := tab_row hT hu
        have hbu : ∀ x, u.ownBlock = some x → w.heap.size ≤ x := fun x hx => own_base hu hx
        refine app_on (cs := pE gk) s27 rfl rfl (by decide) rfl Try.underlying49 hi0 hz0 hz1 hz2 rfl (by decide) hu (s27.get 71 rfl) (s27.get 78 rfl) hlt rfl (fun u hu => by rw [List.mem_singleton.1 hu]; rfl) (by simp only [List.length_append, List.length_take]; unfold maxLen; omega) (by simp only [List.length_append, List.length_take]; omega) z27.size (vv 0 rfl (vv 8 rfl (vv 65 rfl (vv 66 rfl (vv 67 rfl vn))))) fun u2 a28 w28 hu2 gA _ s28 => ?_
        have hu : w28.ownsRow w.heap.size 27 1 u2 (out ++ gs.take (j + 1)).length ((out ++ gs.take (j + 1)).flatMap pE) := by rw [pops_take hgk, ← List.append_assoc, List.length_append, List.flatMap_append]; exact hu2
        have hT := hT.grown gA hnt
        have z28 := z27.grown gA (fun x hx e => absurd (hbu x e) (Nat.not_le.2 hx))
        refine chainK 1 (cc rfl (p_assign g0 (od rfl id)) cn) (by kernel_rfl) s28 fun a29 w29 b29 s29 => ?_
        have z29 := z28.below b29
        have hT := hT.below b29
        have hu := own_below hu b29
        refine wpList_done ?_
        refine flowT (s29.keep (sc 0 rfl (sc 7 rfl (sc 8 rfl (sc 65 rfl (sc 66 rfl (sc 67 rfl (sc 79 rfl sn)))))))) (by kernel_rfl) (cc rfl (p_bin g0 (od rfl id) (oc _) (inc_3 (by omega)))
            (cc rfl (p_move g0 (od rfl id)) cn)) fun a30 w30 b30 s30 => ?_
        have z30 := z29.below b30
        have hT := hT.below b30
        have hu := own_below hu b30
        exact ⟨hjl, _, hu, hT, z30, s30.to _ ⟨rfl, rfl, rfl, rfl, rfl, rfl, True.intro⟩⟩
      · -- false
        obtain rfl : j = o2.kids.length := by have := of_decide_eq_false h68; (try dsimp only at this); omega
        rw [List.take_of_length_le (by omega)] at hu
        refine wp_exit ?_
        refine flowT (s24.keep (sc 0 rfl (sc 7 rfl (sc 8 rfl (sc 65 rfl (sc 66 rfl (sc 67 rfl (sc 68 rfl sn)))))))) (by kernel_rfl) (cc rfl (p_move g0 (od rfl id))
            (cc rfl (p_bin g0 (od rfl id) (oc _) (inc_3 (by omega)))
            (cc rfl (p_assign g0 (od rfl id)) cn))) fun a31 w31 b31 s31 => ?_
        have z31 := z24.below b31
        have hT := hT.below b31
        have hu := own_below hu b31
        exact ⟨f2, by omega, f2, i + 1, _, _, _, rfl, hr3, hu, hT, z31, s31.to _ ⟨rfl, rfl, rfl, True.intro⟩⟩
    · -- false
      have hil : out.length ≤ i := by have := of_decide_eq_false h45; (try dsimp only at this); omega
      rcases remL_step hr2 with ⟨_, rfl, rfl⟩ | ⟨f2, g2, _, _, _, hg2, _⟩
      rotate_left
      · have := (List.getElem?_eq_some_iff.1 hg2).1; omega
      refine wp_exit ?_
      refine wp_seq ?_
      refine flowC mixed (s20.keep (sc 0 rfl (sc 7 rfl (sc 8 rfl sn)))) (by kernel_rfl) (by kernel_rfl) (cc rfl (p_move g0 (od rfl id))
          (cc rfl (p_assign g0 (od rfl id)) cn)) fun a32 w32 b32 s32 => ?_
      have z32 := z20.below b32
      have hT := hT.below b32
      have hu := own_below hu b32
      exact wp_ret (ret_o (fn := Try.f16) (R := fun v w' => ∃ kv', w'.ownsRow w.heap.size 27 1 v out'.length (out'.flatMap pE) ∧ TabAt w' B gT gM ⟨tm', remO t n o⟩ kv' ∧ OnlyB (TabB gT gM t kv) w w' ∧ ∀ i, TabB gT gM ⟨tm', remO t n o⟩ kv' i → TabB gT gM t kv i ∨ w.heap.size ≤ i) (v := .slice A _ c) s32 4 rfl rfl ⟨kv2, hu, hT, z32, hTB⟩)

end Go.Proofs.Ytbeeiecbbmiojaa.Y
