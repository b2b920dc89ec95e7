/- MTc: Yts, Ytt, Ytg, Yth, Ytk, Ytq, one behind the other. -/
import Derived.Test.YtbeeiecbbmiojaaMTb
import Derived.Test.YtbeeiecbbmiojaaBits

/- Yts: (*Table).Remove -/
namespace Go.Proofs.Ytbeeiecbbmiojaa.Y
open Go.RowKit Go.ChangeShapes Go.WideShapes Go.ChangeAt Go.ChangeMaps Go.MapKept

theorem tab_row {w : World} {B B' gT gM n : Nat} {t : Tab} {kv : Nat → Value} {u : Value} {xs : List Value} (h : TabAt w B gT gM t kv) (hr : w.ownsRow B' 27 1 u n xs) : ∀ i, TabB gT gM t kv i → u.ownBlock ≠ some i := fun i hi => by
  rcases hi with rfl | rfl | ⟨g, o, h1, rfl | h2 | ⟨on, h2⟩⟩
  · exact row_ne h.tb hr (by decide)
  · exact row_map h.mp hr
  · exact row_ne (h.ob _ _ h1).blk hr (by decide)
  · obtain ⟨_, cs, hb⟩ := own_row_blk (h.ob _ _ h1).row h2
    exact row_ne hb hr (by decide)
  · exact row_ne ((h.ob _ _ h1).th _ _ h2).1 hr (by decide)
theorem wp_cut {P : Program} {c1 c2 : Code} {Q : Exit → Act → World → Prop} {a : Act} {w : World} (M : Act → World → Prop) (h1 : c1.wp P (Exit.then M Q) a w) (h2 : ∀ a w, M a w → c2.wp P Q a w) : (Code.seq c1 c2).wp P Q a w := by
  refine wp_seq ?_
  refine Code.wp_mono (fun e a' w' q => ?_) h1
  cases e with
  | normal => exact h2 a' w' q
  | _ => exact q
set_option maxRecDepth 100000 in
/-- An object and all that is in it are gone. -/
theorem cRem {w : World} {B gT gM : Nat} {t : Tab} {kv : Nat → Value} (hT : TabAt w B gT gM t kv) {n : Int} {g : Nat} {o : TO} {tm' : List (Int × Nat)} {out' : List Nat} {f : Nat} (hok : t.Ok) (hl : ∀ x q, t.ob x = some q → q.kids.length ≤ 100000) (hgl : t.tm.lookup n = some g) (ho : t.ob g = some o) (hr : remL (remO t n o) f t.tm [g] 0 = some (tm', out')) (hout : out'.length ≤ 100000) : Calls Try.prog 16 #[ptrV gT, .int .u64 n] w fun e w' => ∃ v, e = .returned v ∧ ∃ kv', w'.ownsRow w.heap.size 27 1 v out'.length (out'.flatMap pE) ∧ TabAt w' B gT gM ⟨tm', remO t n o⟩ kv' ∧ OnlyB (TabB gT gM t kv) w w' ∧ ∀ i, TabB gT gM ⟨tm', remO t n o⟩ kv' i → TabB gT gM t kv i ∨ w.heap.size ≤ i := by
  obtain ⟨i0, hi0, hz0, hz1, hz2⟩ := info_parts Try.info27
  have z0 : OnlyB (fun _ => False) w w := OnlyB.refl _ _
  go_enter Try.func16, Try.ntmps16
  refine wp_seq ?_
  refine wp_region_lit ?_
  refine with_st (st0 (U := False) (N := 82) (e := [(0, true, .val (ptrV gT)), (1, true, .val (.int .u64 n))]) (F := noF) rfl rfl (fok_no _ _) ⟨⟨rfl, rfl⟩, ⟨⟨rfl, rfl⟩, True.intro⟩⟩) fun s0 => ?_
  show wpList _ _ _ (_ :: _) _ _
  refine alloc_on (u := 28) (z := #[.int .u64 n]) s0 (by simp [Region.wanted]) rfl (by decide) (bx_28 _ _ (s0.get 1 rfl)) (vv 0 rfl vn) fun gb a1 w1 hb hgb b1 s1 => ?_
  have z1 := z0.below b1
  have hT := hT.below b1
  refine chainK 1 (cc rfl (p_assign g0 (oc _)) cn) (by kernel_rfl) s1 fun a2 w2 b2 s2 => ?_
  have z2 := z1.below b2
  have hT := hT.below b2
  have hb := hb.below b2 hb.lt
  refine wpList_done ?_
  refine wp_seq ?_
  have s2 := s2.more 0 (y := .tab gT gM 104 t.vals) (at_tab hT (s2.get 0 rfl))
  have s2 := s2.more 3 (y := .bp gb 28 #[.int .u64 n] 0) (at_obj hb (s2.get 3 rfl))
  refine flowC mixed (s2.keep (sc 0 rfl (sc 3 rfl (sc 4 rfl sn)))) (by kernel_rfl) (by kernel_rfl) (cc rfl (p_move g0 (od rfl id))
      (cc rfl (p_nilT g0 (od rfl id))
      (cc rfl (p_faT fa_104_0 g0 (od rfl id))
      (cc rfl (p_ldT ld_102 g0 (od rfl id))
      (cc rfl (p_ldB ld_28 rfl g0 (od rfl id))
      (cc rfl (p_lookO Try.underlying102 Try.underlying28 zero27 (tab_look _ _) g0 (od rfl id) (od rfl id))
      (cc rfl (p_assign g0 (od rfl id)) cn))))))) fun a3 w3 b3 s3 => ?_
  have z3 := z2.below b3
  have hT := hT.below b3
  have hb := hb.below b3 hb.lt
  rw [hgl] at s3
  have s3 := s3.more 5 (y := .bp g 48 (toC o (kv g)) 0) (at_obj (hT.ob _ _ ho).blk (s3.get 5 rfl))
  refine wp_seq ?_
  refine wp_seq ?_
  refine flowC mixed (s3.keep (sc 0 rfl (sc 3 rfl (sc 4 rfl (sc 5 rfl sn))))) (by kernel_rfl) (by kernel_rfl) (cc rfl (p_move g0 (od rfl id))
      (cc rfl (p_eqB g0 (od rfl id)) cn)) fun a4 w4 b4 s4 => ?_
  have z4 := z3.below b4
  have hT := hT.below b4
  have hb := hb.below b4 hb.lt
  refine s4.cond 18 rfl (fun h => absurd h (by simp)) fun _ => ?_
  refine wp_skip ?_
  refine wp_cut (fun a wr => ∃ kv2, TabAt wr B gT gM ⟨t.tm, remO t n o⟩ kv2 ∧ OnlyB (TabB gT gM t kv) w wr ∧ (∀ i, TabB gT gM ⟨t.tm, remO t n o⟩ kv2 i → TabB gT gM t kv i ∨ w.heap.size ≤ i) ∧ StE False 82 [(0, true, .val (ptrV gT)), (5, true, .val (ptrV g))] noF a wr) ?_ ?_
  · -- the container
    refine wp_seq ?_
    refine flowC mixed (s4.keep (sc 0 rfl (sc 3 rfl (sc 4 rfl (sc 5 rfl sn))))) (by kernel_rfl) (by kernel_rfl) (cc rfl (p_move g0 (od rfl id))
        (cc rfl (p_nilT g0 (od rfl id))
        (cc rfl (p_faT fa_104_0 g0 (od rfl id))
        (cc rfl (p_ldT ld_102 g0 (od rfl id))
        (cc rfl (p_move g0 (od rfl id))
        (cc rfl (p_nilB g0 (od rfl id))
        (cc rfl (p_faB fa_48_4 g0 (od rfl id))
        (cc rfl (p_ldB ld_28 rfl g0 (od rfl id))
        (cc rfl (p_lookO Try.underlying102 Try.underlying28 zero27 (tab_look _ _) g0 (od rfl id) (od rfl id))
        (cc rfl (p_assign g0 (od rfl id)) cn)))))))))) fun a5 w5 b5 s5 => ?_
    have z5 := z4.below b5
    have hT := hT.below b5
    have hb := hb.below b5 hb.lt
    have s5 := s5.more 0 (y := .val (ptrV gT)) (s5.get 0 rfl).1
    refine wp_seq ?_
    cases hh : t.tm.lookup o.home with
    | none =>
      rw [hh] at s5
      have eO : remO t n o = t.ob := by unfold remO; rw [home_none hh]
      refine flowC mixed (s5.keep (sc 0 rfl (sc 3 rfl (sc 4 rfl (sc 5 rfl (sc 6 rfl sn)))))) (by kernel_rfl) (by kernel_rfl) (cc rfl (p_move g0 (od rfl id))
          (cc rfl (p_bin g0 (od rfl id) (oc _) b_neP) cn)) fun a6 w6 b6 s6 => ?_
      have z6 := z5.below b6
      have hT := hT.below b6
      have hb := hb.below b6 hb.lt
      refine s6.cond 29 rfl (fun h => absurd h (by simp)) fun _ => ?_
      refine wp_skip ?_
      have s6 := s6.more 5 (y := .val (ptrV g)) (s6.get 5 rfl).1
      exact ⟨kv, by rw [eO]; exact hT, z6.mono (fun _ _ h => h.elim), fun i hi => .inl (by rw [eO] at hi; exact hi), s6.vals (fok_no _ _) (vv 0 rfl (vv 5 rfl vn))⟩
    | some gh =>
      obtain ⟨q, hq, _⟩ := hok _ _ hh
      rw [hh] at s5
      have eO : remO t n o = upd t.ob gh (some { q with kids := q.kids.filter (· != n) }) := by unfold remO; rw [home_some hh hq]
      have s5 := s5.more 6 (y := .bp gh 48 (toC q (kv gh)) 0) (at_obj (hT.ob _ _ hq).blk (s5.get 6 rfl))
      refine flowC mixed (s5.keep (sc 0 rfl (sc 3 rfl (sc 4 rfl (sc 5 rfl (sc 6 rfl sn)))))) (by kernel_rfl) (by kernel_rfl) (cc rfl (p_move g0 (od rfl id))
          (cc rfl (p_neB g0 (od rfl id)) cn)) fun a7 w7 b7 s7 => ?_
      have z7 := z5.below b7
      have hT := hT.below b7
      have hb := hb.below b7 hb.lt
      refine s7.cond 29 rfl (fun _ => ?_) (fun h => absurd h (by simp))
      refine wp_region_lit ?_
      refine with_st (s7.keep (sc 0 rfl (sc 3 rfl (sc 5 rfl (sc 6 rfl sn))))) fun s7 => ?_
      refine chainK 5 (cc rfl (p_move g0 (od rfl id))
          (cc rfl (p_move g0 (od rfl id))
          (cc rfl (p_nilB g0 (od rfl id))
          (cc rfl (p_faB fa_48_9 g0 (od rfl id))
          (cc rfl (p_ldB ld_29 rfl g0 (od rfl id)) cn))))) (by kernel_rfl) s7 fun a8 w8 b8 s8 => ?_
      have z8 := z7.below b8
      have hT := hT.below b8
      have hb := hb.below b8 hb.lt
      show wpList _ _ _ (_ :: _) _ _
      have hrow := (hT.ob _ _ hq).row
      have hlq := hl _ _ hq
      have zs := z8.size
      have hBs := Nat.le_of_lt (Nat.lt_of_le_of_lt hT.bT hT.tb.lt)
      have s8 := s8.more 0 (y := .val (ptrV gT)) (s8.get 0 rfl)
      have s8 := s8.more 5 (y := .val (ptrV g)) (s8.get 5 rfl).1
      have s8 := s8.more 30 (y := .val (ptrV gh)) (s8.get 30 rfl).1
      have s8 := s8.more 3 (y := .val (ptrV gb)) (s8.get 3 rfl).1
      refine callO (R := fun v w' => w'.ownsRow w8.heap.size 28 1 v q.kids.length (q.kids.flatMap kE) ∧ Below w8.heap.size w8 w') [.tmp 34] s8 (by simp [Region.wanted]) (fun _ _ => by kernel_rfl) rfl (by decide) (show Calls Try.prog 39 #[a8.tmps.getD 34 undef] w8 _ from by rw [show a8.tmps.getD 34 undef = kv gh from s8.get 34 rfl]; exact clone_own (by omega) hrow) (vv 0 rfl (vv 3 rfl (vv 5 rfl (vv 30 rfl vn)))) fun vc a9 w9 hR9 s9 => ?_
      obtain ⟨hc, bX⟩ := hR9
      have hcb : vc.ownBlock ≠ some gb := fun e => Nat.lt_irrefl _ (Nat.lt_of_lt_of_le hb.lt (own_base hc e))
      have hb := hb.below bX hb.lt
      have z9 := z8.below bX
      refine chainK 1 (cc rfl (p_clo g0 (od rfl id)) cn) (by kernel_rfl) s9 fun a10 w10 b10 s10 => ?_
      have z10 := z9.below b10
      have hb := hb.below b10 hb.lt
      have hc := own_below hc b10
      have bX := bX.trans (b10.mono bX.size)
      show wpList _ _ _ (_ :: _) _ _
      refine callO (R := fun v w' => w'.ownsRow w8.heap.size 28 1 v (q.kids.filter (nq n)).length ((q.kids.filter (nq n)).flatMap kE) ∧ w10.grownBy w' vc.ownBlock ∧ v.ownBlock = vc.ownBlock) [.tmp 35, .tmp 36] s10 (by simp [Region.wanted]) (fun _ _ => by kernel_rfl) rfl (by decide) (show Calls Try.prog 38 #[a10.tmps.getD 35 undef, a10.tmps.getD 36 undef] w10 _ from by rw [show a10.tmps.getD 35 undef = vc from s10.get 35 rfl, show a10.tmps.getD 36 undef = _ from s10.get 36 rfl]; exact cDel (by omega) hc hb hcb) (vv 0 rfl (vv 5 rfl (vv 30 rfl vn))) fun vd a11 w11 hR11 s11 => ?_
      obtain ⟨hd, gD, eD⟩ := hR11
      have hvd : ∀ x, vd.ownBlock = some x → w8.heap.size ≤ x := fun x hx => own_base hd hx
      have hbc : ∀ x, vc.ownBlock = some x → w8.heap.size ≤ x := fun x hx => own_base hc hx
      have bX := bX.grown gD bX.size hbc
      have z11 := z10.grown gD (fun x hx e => absurd (Nat.le_trans zs (hbc x e)) (Nat.not_le.2 hx))
      refine chainK 2 (cc rfl (p_nilV g0 (od rfl id))
          (cc rfl (p_faV0 fa_48_9 g0 (od rfl id)) cn)) (by kernel_rfl) s11 fun a12 w12 b12 s12 => ?_
      have z12 := z11.below b12
      have hd := own_below hd b12
      have bX := bX.trans (b12.mono bX.size)
      show wpList _ _ _ (_ :: _) _ _
      have hbl := (hT.ob _ _ hq).blk.below bX (hT.ob _ _ hq).blk.lt
      refine cells_on (vs := [vd]) s12 rfl rfl rfl (s12.get 39 rfl) (s12.get 37 rfl) (slice_one hd).2 hbl (by simp) sz_29 (fun u hu => by rw [List.mem_singleton.1 hu]; exact (slice_one hd).1) (vv 0 rfl (vv 5 rfl vn)) fun a13 w13 hbl2 gS s13 => ?_
      have hbl2 : Blk w13 gh 48 (toC { q with kids := q.kids.filter (nq n) } vd) := hbl2
      have z13 := (z12.mono (S' := TabB gT gM t kv) (fun _ _ h => h.elim)).grown gS (fun x _ e => .inr (.inr ⟨gh, q, hq, .inl (by injection e with e; exact e.symm)⟩))
      have hT := hT.kids hq (.inr bX) (own_mono hd hBs) (.inr hvd) hbl2 gS
      refine wpList_done ?_
      exact ⟨upd kv gh vd, by rw [eO]; exact hT, z13, fun i hi => by
        rw [eO] at hi
        rcases tabB_kids hq hi with h | h
        · exact .inl h
        · exact .inr (Nat.le_trans zs (hvd i h)), s13⟩
  · -- what goes
    rintro a14 w14 ⟨kv2, hT, z14, hTB, s14⟩
    refine wp_seq ?_
    refine wp_region_lit ?_
    refine with_st (s14.keep (sc 0 rfl (sc 5 rfl sn))) fun s14 => ?_
    refine chainK 1 (cc rfl (p_move g0 (od rfl id)) cn) (by kernel_rfl) s14 fun a15 w15 b15 s15 => ?_
    have z15 := z14.below b15
    have hT := hT.below b15
    show wpList _ _ _ (_ :: _) _ _
    refine lit_on (u := 27) (z := #[ptrV g]) s15 (by simp [Region.wanted]) rfl (by decide) (bs_49 _ _ (show _ = ptrV g from s15.get 40 rfl)) (vv 0 rfl vn) fun b1 a16 w16 hbo hb1 b16 s16 => ?_
    have hb1 := Nat.le_trans z15.size hb1
    have z16 := z15.below b16
    have hT := hT.below b16
    refine chainK 1 (cc rfl (p_assign g0 (od rfl id)) cn) (by kernel_rfl) s16 fun a17 w17 b17 s17 => ?_
    have z17 := z16.below b17
    have hT := hT.below b17
    have hbo := hbo.below b17 hbo.lt
    refine wpList_done ?_
    refine wp_seq ?_
    refine wp_seq ?_
    refine flowC mixed (s17.keep (sc 0 rfl (sc 7 rfl sn))) (by kernel_rfl) (by kernel_rfl) (cc rfl (p_assign g0 (oc _)) cn) fun a18 w18 b18 s18 => ?_
    have z18 := z17.below b18
    have hT := hT.below b18
    have hbo := hbo.below b18 hbo.lt
    refine wp_block ?_
    have hu := out_one hbo hb1
    refine wp_loopK (fun k a wr => ∃ f i tm out u, k = f ∧ remL (remO t n o) f tm out i = some (tm', out') ∧ wr.ownsRow w.heap.size 27 1 u out.length (out.flatMap pE) ∧ TabAt wr B gT gM ⟨tm, remO t n o⟩ kv2 ∧ OnlyB (TabB gT gM t kv) w wr ∧ StE False 82 [(0, true, .val (ptrV gT)), (7, true, .val u), (8, true, .int .i64 (i : Int))] noF a wr) f ⟨f, 0, t.tm, [g], _, rfl, hr, hu, hT, z18, s18.to _ ⟨rfl, rfl, rfl, True.intro⟩⟩ fun k a19 w19 hI => ?_
    obtain ⟨f, i, tm, out, u, rfl, hr2, hu, hT, z19, s19⟩ := hI
    obtain ⟨A, c, rfl⟩ := own_slice hu
    refine wp_seq ?_
    refine wp_seq ?_
    refine flowC mixed (s19.keep (sc 0 rfl (sc 7 rfl (sc 8 rfl sn)))) (by kernel_rfl) (by kernel_rfl) (cc rfl (p_move g0 (od rfl id))
        (cc rfl (p_move g0 (od rfl id))
        (cc rfl (p_lenV ln_49 g0 (od rfl id))
        (cc rfl (p_bin g0 (od rfl id) (od rfl id) b_lss_3) cn)))) fun a20 w20 b20 s20 => ?_
    have z20 := z19.below b20
    have hT := hT.below b20
    have hu := own_below hu b20
    refine s20.cond 45 rfl (fun h45 => ?_) (fun h45 => ?_)
    · -- true
      have hil : i < out.length := by have := of_decide_eq_true h45; (try dsimp only at this); omega
      rcases remL_step hr2 with ⟨h1, _, _⟩ | ⟨f2, g2, o2, gs, rfl, hg2, ho2, hps, hr3⟩
      · omega
      have hlen := remL_len hr3
      rw [List.length_append] at hlen
      have hkg := (pops_at hps).1
      rcases hu.2 with ⟨_, h1⟩ | ⟨b, c2, cur, e, hBb, hbb, hnc, hcm, hcs, htake⟩
      · omega
      injection e with e1 e2 e3
      subst e1 e3
      have hbb : Blk _ b 27 cur := hbb
      refine wp_skip ?_
      refine wp_seq ?_
      refine wp_block ?_
      refine wp_seq ?_
      have hob := hT.ob g2 o2 ho2
      have s20 := s20.vals (F' := AtB gM) (fok_atO hT.mp.lt) (vv 0 rfl (vv 7 rfl (vv 8 rfl vn)))
      have s20 := s20.more 0 (y := .bp gT 104 #[.map (some gM)] 0) ⟨s20.get 0 rfl, hT.tb, fun _ h => map_ne hT.tb hT.mp h⟩
      have s20 := s20.more 7 (y := .rowO b out.length c i g2 cur (toC o2 (kv2 g2))) ⟨s20.get 7 rfl, hil, hbb, at_pE htake hg2, hob.blk, fun _ h => map_ne hbb hT.mp h, fun _ h => map_ne hob.blk hT.mp h⟩
      have s20 := s20.keep (sc 0 rfl (sc 7 rfl (sc 8 rfl sn)))
      refine flowEN 12 11 gM (fun wr => Below w20.heap.size w20 wr) (fun wr => MapAt wr gM .u64 (delA (tm.map fun p : Int × Nat => (p.1, ptrV p.2)) o2.name) ∧ w20.grownBy wr (some gM)) mixed s20 (fun _ => rfl) (Below.refl _ _) (fun h hb => h.trans (hb.mono h.size)) (fun h hb => ⟨h.1.below hb, only_trans h.2 (only_of_below hb _)⟩) (by kernel_rfl) rfl rfl (cc rfl (p_move g0 (od rfl id))
          (cc rfl (p_nilB g0 (od rfl id))
          (cc rfl (p_faB fa_104_0 g0 (od rfl id))
          (cc rfl (p_ldB ld_102 rfl g0 (od rfl id))
          (cc rfl (p_move g0 (od rfl id))
          (cc rfl (p_move g0 (od rfl id))
          (cc rfl (p_idxO g0 (od rfl id) (od rfl id))
          (cc rfl (p_ldO g0 (od rfl id))
          (cc rfl (p_nilB g0 (od rfl id))
          (cc rfl (p_faB fa_48_1 g0 (od rfl id))
          (cc rfl (p_ldB ld_28 rfl g0 (od rfl id)) cn))))))))))) (by kernel_rfl) (fun ac wc oc hoc hsz hf hknow hBel R hR => ?_) fun a21 w21 _ hG s21 => ?_
      · obtain rfl := Option.some.inj hoc
        have q51 : ac.tmps.getD 51 undef = .map (some gM) := (hknow 51 (List.contains_iff_mem.1 (by kernel_rfl)) _ rfl).1 rfl
        have q58 : ac.tmps.getD 58 undef = .int .u64 o2.name := (hknow 58 (List.contains_iff_mem.1 (by kernel_rfl)) _ rfl).1 rfl
        rw [if_pos (by simp [Region.wanted])]
        obtain ⟨w2, r1, r2, r3⟩ := run_drop (P := Try.prog) (hT.mp.below hBel) Try.underlying102 Try.underlying28 o2.name 0
        have q51 : ac.eval (.tmp 51) = .map (some gM) := q51
        have q58 : ac.eval (.tmp 58) = .int .u64 o2.name := q58
        unfold Oper.wp execOp
        simp only [resolve, invoke, builtin, Sem.run_bind, Sem.run_pure, Result.andThen_ok, List.map_toArray, List.map_cons, List.map_nil, q51, q58, r1]
        exact hR _ w2 r3 (fun u => u.elim) ⟨r2, only_trans (only_of_below hBel _) r3⟩
      refine wpList_done ?_
      obtain ⟨hm, gM2⟩ := hG
      rw [del_vals] at hm
      have hu := own_grownR hu gM2 (.inr (row_map hT.mp hu))
      have hbb := hbb.grown gM2 (fun e => map_ne hbb hT.mp (by injection e))
      have hT := hT.put hm gM2
      have z21 := z20.grown gM2 (fun x _ e => .inr (.inl (by injection e with e; exact e.symm)))
      have s21 := s21.more 0 (y := .val (ptrV gT)) (s21.get 0 rfl).1
      have s21 := s21.more 7 (y := .val (.slice (some ⟨b, 0, none⟩) out.length c)) (s21.get 7 rfl).1
      have s21 := s21.vals (fok_no _ w21) (vv 0 rfl (vv 7 rfl (vv 8 rfl vn)))
      refine wp_seq ?_
      have hob := hT.ob g2 o2 ho2
      have s21 := s21.more 7 (y := .rowO b out.length c i g2 cur (toC o2 (kv2 g2))) (⟨(s21.get 7 rfl), hil, hbb, at_pE htake hg2, hob.blk, fun _ h => h, fun _ h => h⟩)
      refine flowC mixed (s21.keep (sc 0 rfl (sc 7 rfl (sc 8 rfl sn)))) (by kernel_rfl) (by kernel_rfl) (cc rfl (p_move g0 (od rfl id))
          (cc rfl (p_move g0 (od rfl id))
          (cc rfl (p_idxO g0 (od rfl id) (od rfl id))
          (cc rfl (p_ldO g0 (od rfl id))
          (cc rfl (p_nilB g0 (od rfl id))
          (cc rfl (p_faB fa_48_9 g0 (od rfl id))
          (cc rfl (p_ldB ld_29 rfl g0 (od rfl id))
          (cc rfl (p_lenW (own_slice hob.row) ln_29 g0 (od rfl id))
          (cc rfl (p_move g0 (oc _)) cn))))))))) fun a22 w22 b22 s22 => ?_
      have z22 := z21.below b22
      have hT := hT.below b22
      have hu := own_below hu b22
      have hbb := hbb.below b22 hbb.lt
      have s22 := s22.more 7 (y := .val (.slice (some ⟨b, 0, none⟩) out.length c)) (s22.get 7 rfl).1
      refine wp_block ?_
      refine wp_count o2.kids.length 67 (fun j a wr => ∃ u, wr.ownsRow w.heap.size 27 1 u (out ++ gs.take j).length ((out ++ gs.take j).flatMap pE) ∧ TabAt wr B gT gM ⟨delT tm o2.name, remO t n o⟩ kv2 ∧ OnlyB (TabB gT gM t kv) w wr ∧ StE False 82 [(0, true, .val (ptrV gT)), (7, true, .val u), (8, true, .int .i64 (i : Int)), (65, true, .val (kv2 g2)), (66, true, .int .i64 (o2.kids.length : Int)), (67, true, .int .i64 (j : Int))] noF a wr) (fun _ _ _ ⟨_, _, _, _, h⟩ => h.get 67 rfl) ⟨_, by rw [List.take_zero, List.append_nil]; exact hu, hT, z22, s22.to _ ⟨rfl, rfl, rfl, rfl, rfl, rfl, True.intro⟩⟩ fun j a23 w23 hj23 hI => ?_
      obtain ⟨u, hu, hT, z23, s23⟩ := hI
      refine wp_seq ?_
      refine flowC mixed (s23.keep (sc 0 rfl (sc 7 rfl (sc 8 rfl (sc 65 rfl (sc 66 rfl (sc 67 rfl sn))))))) (by kernel_rfl) (by kernel_rfl) (cc rfl (p_bin g0 (od rfl id) (od rfl id) b_lss_3) cn) fun a24 w24 b24 s24 => ?_
      have z24 := z23.below b24
      have hT := hT.below b24
      have hu := own_below hu b24
      refine wp_seq ?_
      refine s24.cond 68 rfl (fun h68 => ?_) (fun h68 => ?_)
      · -- true
        have hjl : j < o2.kids.length := by have := of_decide_eq_true h68; (try dsimp only at this); omega
        obtain ⟨kk, ek⟩ : ∃ x, o2.kids[j]? = some x := ⟨_, List.getElem?_eq_getElem hjl⟩
        obtain ⟨gk, hlk, hgk⟩ := (pops_at hps).2 j kk ek
        refine wp_skip ?_
        refine wp_seq ?_
        refine wp_block ?_
        refine wp_seq ?_
        have s24 := s24.more 65 (y := .both (.val (kv2 g2)) (.one (Lay.sl (Lay.int .u64)) o2.kids)) ⟨s24.get 65 rfl, by rw [show _ = kv2 g2 from s24.get 65 rfl]; exact sl_of_own kF (hT.ob g2 o2 ho2).row (F := noF) fun _ _ _ _ h => h⟩
        refine flowC mixed (s24.keep (sc 0 rfl (sc 7 rfl (sc 8 rfl (sc 65 rfl (sc 66 rfl (sc 67 rfl (sc 68 rfl sn)))))))) (by kernel_rfl) (by kernel_rfl) (cc rfl (p_index ix_29 ek g0 (od2 rfl id) (od rfl id))
            (cc rfl (p_loadI ld_28 g0 (od rfl id))
            (cc rfl (p_assign g0 (od rfl id)) cn))) fun a25 w25 b25 s25 => ?_
        have z25 := z24.below b25
        have hT := hT.below b25
        have hu := own_below hu b25
        have s25 := s25.more 65 (y := .val (kv2 g2)) (s25.get 65 rfl).1
        have s25 := s25.more 0 (y := .tab gT gM 104 (Tab.vals ⟨delT tm o2.name, remO t n o⟩)) (at_tab hT (s25.get 0 rfl))
        refine wp_region_lit ?_
        refine with_st (s25.keep (sc 0 rfl (sc 7 rfl (sc 8 rfl (sc 10 rfl (sc 65 rfl (sc 66 rfl (sc 67 rfl sn)))))))) fun s25 => ?_
        refine chainK 7 (cc rfl (p_move g0 (od rfl id))
            (cc rfl (p_move g0 (od rfl id))
            (cc rfl (p_nilT g0 (od rfl id))
            (cc rfl (p_faT fa_104_0 g0 (od rfl id))
            (cc rfl (p_ldT ld_102 g0 (od rfl id))
            (cc rfl (p_move g0 (od rfl id))
            (cc rfl (p_lookO Try.underlying102 Try.underlying28 zero27 (tab_look _ _) g0 (od rfl id) (od rfl id)) cn))))))) (by kernel_rfl) s25 fun a26 w26 b26 s26 => ?_
        have z26 := z25.below b26
        have hT := hT.below b26
        have hu := own_below hu b26
        show wpList _ _ _ (_ :: _) _ _
        rw [hlk] at s26
        have s26 := s26.more 0 (y := .val (ptrV gT)) (s26.get 0 rfl).1
        refine lit_on (u := 27) (z := #[ptrV gk]) s26 (by simp [Region.wanted]) rfl (by decide) (bs_49 _ _ (show _ = ptrV gk from s26.get 77 rfl)) (vv 0 rfl (vv 8 rfl (vv 65 rfl (vv 66 rfl (vv 67 rfl (vv 71 rfl vn)))))) fun bl a27 w27 hlt hbl b27 s27 => ?_
        have hbl := Nat.le_trans z26.size hbl
        have z27 := z26.below b27
        have hT := hT.below b27
        have hu := own_below hu b27
        show wpList _ _ _ (_ :: _) _ _
        have hnt := tab_row hT hu
        have hbu : ∀ x, u.ownBlock = some x → w.heap.size ≤ x := fun x hx => own_base hu hx
        refine app_on (cs := pE gk) s27 rfl rfl (by decide) rfl Try.underlying49 hi0 hz0 hz1 hz2 rfl (by decide) hu (s27.get 71 rfl) (s27.get 78 rfl) hlt rfl (fun u hu => by rw [List.mem_singleton.1 hu]; rfl) (by simp only [List.length_append, List.length_take]; unfold maxLen; omega) (by simp only [List.length_append, List.length_take]; omega) z27.size (vv 0 rfl (vv 8 rfl (vv 65 rfl (vv 66 rfl (vv 67 rfl vn))))) fun u2 a28 w28 hu2 gA _ s28 => ?_
        have hu : w28.ownsRow w.heap.size 27 1 u2 (out ++ gs.take (j + 1)).length ((out ++ gs.take (j + 1)).flatMap pE) := by rw [pops_take hgk, ← List.append_assoc, List.length_append, List.flatMap_append]; exact hu2
        have hT := hT.grown gA hnt
        have z28 := z27.grown gA (fun x hx e => absurd (hbu x e) (Nat.not_le.2 hx))
        refine chainK 1 (cc rfl (p_assign g0 (od rfl id)) cn) (by kernel_rfl) s28 fun a29 w29 b29 s29 => ?_
        have z29 := z28.below b29
        have hT := hT.below b29
        have hu := own_below hu b29
        refine wpList_done ?_
        refine flowT (s29.keep (sc 0 rfl (sc 7 rfl (sc 8 rfl (sc 65 rfl (sc 66 rfl (sc 67 rfl (sc 79 rfl sn)))))))) (by kernel_rfl) (cc rfl (p_bin g0 (od rfl id) (oc _) (inc_3 (by omega)))
            (cc rfl (p_move g0 (od rfl id)) cn)) fun a30 w30 b30 s30 => ?_
        have z30 := z29.below b30
        have hT := hT.below b30
        have hu := own_below hu b30
        exact ⟨hjl, _, hu, hT, z30, s30.to _ ⟨rfl, rfl, rfl, rfl, rfl, rfl, True.intro⟩⟩
      · -- false
        obtain rfl : j = o2.kids.length := by have := of_decide_eq_false h68; (try dsimp only at this); omega
        rw [List.take_of_length_le (by omega)] at hu
        refine wp_exit ?_
        refine flowT (s24.keep (sc 0 rfl (sc 7 rfl (sc 8 rfl (sc 65 rfl (sc 66 rfl (sc 67 rfl (sc 68 rfl sn)))))))) (by kernel_rfl) (cc rfl (p_move g0 (od rfl id))
            (cc rfl (p_bin g0 (od rfl id) (oc _) (inc_3 (by omega)))
            (cc rfl (p_assign g0 (od rfl id)) cn))) fun a31 w31 b31 s31 => ?_
        have z31 := z24.below b31
        have hT := hT.below b31
        have hu := own_below hu b31
        exact ⟨f2, by omega, f2, i + 1, _, _, _, rfl, hr3, hu, hT, z31, s31.to _ ⟨rfl, rfl, rfl, True.intro⟩⟩
    · -- false
      have hil : out.length ≤ i := by have := of_decide_eq_false h45; (try dsimp only at this); omega
      rcases remL_step hr2 with ⟨_, rfl, rfl⟩ | ⟨f2, g2, _, _, _, hg2, _⟩
      rotate_left
      · have := (List.getElem?_eq_some_iff.1 hg2).1; omega
      refine wp_exit ?_
      refine wp_seq ?_
      refine flowC mixed (s20.keep (sc 0 rfl (sc 7 rfl (sc 8 rfl sn)))) (by kernel_rfl) (by kernel_rfl) (cc rfl (p_move g0 (od rfl id))
          (cc rfl (p_assign g0 (od rfl id)) cn)) fun a32 w32 b32 s32 => ?_
      have z32 := z20.below b32
      have hT := hT.below b32
      have hu := own_below hu b32
      exact wp_ret (ret_o (fn := Try.f16) (R := fun v w' => ∃ kv', w'.ownsRow w.heap.size 27 1 v out'.length (out'.flatMap pE) ∧ TabAt w' B gT gM ⟨tm', remO t n o⟩ kv' ∧ OnlyB (TabB gT gM t kv) w w' ∧ ∀ i, TabB gT gM ⟨tm', remO t n o⟩ kv' i → TabB gT gM t kv i ∨ w.heap.size ≤ i) (v := .slice A _ c) s32 4 rfl rfl ⟨kv2, hu, hT, z32, hTB⟩)

end Go.Proofs.Ytbeeiecbbmiojaa.Y

/- Ytt: Remove of a name that is not there -/
namespace Go.Proofs.Ytbeeiecbbmiojaa.Y
open Go.RowKit Go.ChangeShapes Go.WideShapes Go.ChangeAt Go.ChangeMaps Go.MapKept

set_option maxRecDepth 100000 in
/-- A name that is not there is not taken away. -/
theorem cRem0 {w : World} {B gT gM : Nat} {t : Tab} {kv : Nat → Value} (hT : TabAt w B gT gM t kv) {n : Int} (hgl : t.tm.lookup n = none) : Calls Try.prog 16 #[ptrV gT, .int .u64 n] w fun e w' => ∃ v, e = .returned v ∧ v = .slice none 0 0 ∧ Below w.heap.size w w' := by
  have z0 : OnlyB (fun _ => False) w w := OnlyB.refl _ _
  go_enter Try.func16, Try.ntmps16
  refine wp_seq ?_
  refine wp_region_lit ?_
  refine with_st (st0 (U := False) (N := 82) (e := [(0, true, .val (ptrV gT)), (1, true, .val (.int .u64 n))]) (F := noF) rfl rfl (fok_no _ _) ⟨⟨rfl, rfl⟩, ⟨⟨rfl, rfl⟩, True.intro⟩⟩) fun s0 => ?_
  show wpList _ _ _ (_ :: _) _ _
  refine alloc_on (u := 28) (z := #[.int .u64 n]) s0 (by simp [Region.wanted]) rfl (by decide) (bx_28 _ _ (s0.get 1 rfl)) (vv 0 rfl vn) fun gb a1 w1 hb hgb b1 s1 => ?_
  have z1 := z0.below b1
  have hT := hT.below b1
  refine chainK 1 (cc rfl (p_assign g0 (oc _)) cn) (by kernel_rfl) s1 fun a2 w2 b2 s2 => ?_
  have z2 := z1.below b2
  have hT := hT.below b2
  have hb := hb.below b2 hb.lt
  refine wpList_done ?_
  refine wp_seq ?_
  have s2 := s2.more 0 (y := .tab gT gM 104 t.vals) (at_tab hT (s2.get 0 rfl))
  have s2 := s2.more 3 (y := .bp gb 28 #[.int .u64 n] 0) (at_obj hb (s2.get 3 rfl))
  refine flowC mixed (s2.keep (sc 0 rfl (sc 3 rfl (sc 4 rfl sn)))) (by kernel_rfl) (by kernel_rfl) (cc rfl (p_move g0 (od rfl id))
      (cc rfl (p_nilT g0 (od rfl id))
      (cc rfl (p_faT fa_104_0 g0 (od rfl id))
      (cc rfl (p_ldT ld_102 g0 (od rfl id))
      (cc rfl (p_ldB ld_28 rfl g0 (od rfl id))
      (cc rfl (p_lookO Try.underlying102 Try.underlying28 zero27 (tab_look _ _) g0 (od rfl id) (od rfl id))
      (cc rfl (p_assign g0 (od rfl id)) cn))))))) fun a3 w3 b3 s3 => ?_
  have z3 := z2.below b3
  have hT := hT.below b3
  have hb := hb.below b3 hb.lt
  rw [hgl] at s3
  refine wp_seq ?_
  refine wp_seq ?_
  refine flowC mixed (s3.keep (sc 0 rfl (sc 3 rfl (sc 4 rfl (sc 5 rfl sn))))) (by kernel_rfl) (by kernel_rfl) (cc rfl (p_move g0 (od rfl id))
      (cc rfl (p_bin g0 (od rfl id) (oc _) b_eqP) cn)) fun a4 w4 b4 s4 => ?_
  have z4 := z3.below b4
  have hT := hT.below b4
  have hb := hb.below b4 hb.lt
  refine s4.cond 18 rfl (fun _ => ?_) (fun h => absurd h (by simp))
  refine wp_seq ?_
  refine flowT (s4.keep (sc 0 rfl (sc 3 rfl (sc 4 rfl (sc 5 rfl sn))))) (by kernel_rfl) (cc rfl (p_assign g0 (oc _)) cn) fun a5 w5 b5 s5 => ?_
  have z5 := z4.below b5
  have hT := hT.below b5
  have hb := hb.below b5 hb.lt
  exact wp_ret (ret_o (fn := Try.f16) (R := fun v w' => v = .slice none 0 0 ∧ Below w.heap.size w w') (v := .slice none 0 0) s5 4 rfl rfl ⟨rfl, z5.to_below (fun _ _ h => h) (Nat.le_refl _)⟩)

end Go.Proofs.Ytbeeiecbbmiojaa.Y

/- Ytg: the example of the laws on tables, in plain Lean -/
namespace Go.Proofs.Ytbeeiecbbmiojaa.Y
open Go.RowKit Go.ChangeShapes Go.WideShapes Go.ChangeAt Go.ChangeMaps Go.MapKept

/-- The example of the laws on tables. -/
abbrev T0 : Tab := ⟨[], fun _ => none⟩
abbrev rootO : TO := ⟨1, 1, 0, [], none⟩
abbrev rootK : TO := ⟨1, 1, 0, [5], none⟩
abbrev kidO : TO := ⟨5, 1, 1, [], none⟩
abbrev T1 (g1 : Nat) : Tab := ⟨[(1, g1)], upd (fun _ => none) g1 (some rootO)⟩
abbrev T2 (g1 g2 : Nat) : Tab := ⟨[(1, g1), (5, g2)], upd (upd (upd (fun _ => none) g1 (some rootO)) g1 (some rootK)) g2 (some kidO)⟩
theorem fit_1 (g1 : Nat) : addB T0 rootO = true ∧ addT T0 g1 rootO = T1 g1 := ⟨by simp [addB, mayAdd, homeOf], by simp [addT, addO, homeOf]⟩
theorem fit_2 {g1 g2 : Nat} : addB (T1 g1) kidO = true ∧ addT (T1 g1) g2 kidO = T2 g1 g2 := by
  have h : homeOf (T1 g1) kidO = some (g1, rootO) := by unfold homeOf; simp [List.lookup, upd_self]
  refine ⟨?_, ?_⟩
  · unfold addB mayAdd; rw [h]; simp [List.lookup]
  · unfold addT addO; rw [h]; simp
theorem fit_ob1 {g1 g2 : Nat} (h : g2 ≠ g1) : (T2 g1 g2).ob g1 = some rootK := by
  show upd _ g2 _ g1 = _
  rw [upd_ne (Ne.symm h), upd_self]
theorem fit_ob2 {g1 g2 : Nat} : (T2 g1 g2).ob g2 = some kidO := upd_self
theorem fit_l1 {g1 g2 : Nat} : (T2 g1 g2).tm.lookup 1 = some g1 := by simp [List.lookup]
theorem fit_l5 {g1 g2 : Nat} : (T2 g1 g2).tm.lookup 5 = some g2 := by simp [List.lookup]
theorem in_step {t : Tab} {nm c n : Int} {k g : Nat} {o : TO} (h0 : n ≠ 0) (hc : n ≠ c) (hl : t.tm.lookup n = some g) (ho : t.ob g = some o) : inF t nm c (k + 1) n = inF t nm c k o.home := by
  rw [inF, if_neg h0, if_neg hc, hl]
  simp only [ho]
theorem remL_go {ob : Nat → Option TO} {f : Nat} {tm : List (Int × Nat)} {out gs : List Nat} {i g : Nat} {o : TO} (hg : out[i]? = some g) (ho : ob g = some o) (hp : pops (delT tm o.name) o.kids = some gs) : remL ob (f + 1) tm out i = remL ob f (delT tm o.name) (out ++ gs) (i + 1) := by
  rw [remL, hg]
  simp only [ho, hp]
theorem fit_in1 {g1 g2 : Nat} : inF (T2 g1 g2) 5 1 2 5 = some true := by
  rw [in_step (by decide) (by decide) fit_l5 fit_ob2]
  unfold inF
  rw [if_neg (by decide), if_pos rfl, fit_l5]
  rfl
theorem fit_in2 {g1 g2 : Nat} (h : g2 ≠ g1) : inF (T2 g1 g2) 1 5 2 1 = some false := by
  rw [in_step (by decide) (by decide) fit_l1 (fit_ob1 h)]
  unfold inF
  rw [if_pos rfl]
theorem fit_remO {g1 g2 : Nat} : remO (T2 g1 g2) 1 rootK = (T2 g1 g2).ob := by
  have : homeOf (T2 g1 g2) rootK = none := by unfold homeOf; simp [List.lookup]
  unfold remO
  rw [this]
theorem fit_rem {g1 g2 : Nat} (h : g2 ≠ g1) : remL (remO (T2 g1 g2) 1 rootK) 3 (T2 g1 g2).tm [g1] 0 = some ([], [g1, g2]) := by
  rw [fit_remO, remL_go (g := g1) (gs := [g2]) rfl (fit_ob1 h) (by simp [delT, pops]), remL_go (g := g2) (gs := []) rfl fit_ob2 (by simp [pops])]
  simp [remL, delT]
theorem fit_ok1 (g1 : Nat) : (T1 g1).Ok := fun n g h => by
  simp only [List.lookup] at h
  split at h
  · rename_i hn
    injection h with h
    subst h
    exact ⟨rootO, (upd_self : upd (fun _ => (none : Option TO)) g1 (some rootO) g1 = some rootO), (show n = 1 by simpa using hn).symm⟩
  · cases h
theorem fit_ok2 {g1 g2 : Nat} (hne : g2 ≠ g1) : (T2 g1 g2).Ok := fun n g h => by
  simp only [List.lookup] at h
  split at h
  · rename_i hn
    injection h with h
    subst h
    exact ⟨rootK, fit_ob1 hne, (show n = 1 by simpa using hn).symm⟩
  · split at h
    · rename_i hn
      injection h with h
      subst h
      exact ⟨kidO, fit_ob2, (show n = 5 by simpa using hn).symm⟩
    · cases h

end Go.Proofs.Ytbeeiecbbmiojaa.Y

/- Yth: the example of the laws on tables: the walk -/
namespace Go.Proofs.Ytbeeiecbbmiojaa.Y
open Go.RowKit Go.ChangeShapes Go.WideShapes Go.ChangeAt Go.ChangeMaps Go.MapKept

theorem b_eqT {d : Nat} {t : TypeId} {p : String} {af : Array Edge} {g : Option (Nat × Bool)} {x x2 : Operand} {b : Nat} : Run2 Try.prog ⟨some d, .binOp .eql 24 x x2 24, t, p, af, g⟩ x x2 (.pointer (some ⟨b, 0, none⟩)) (.pointer none) (.bool false) := fun ev w h1 h2 => by go_simp
theorem objAt0 {w : World} {B g : Nat} {o : TO} {cs : Array Value} (hk : o.kids = []) (ht : o.th = none) (hB : Blk w g 48 cs) (e : cs = toC o (.slice none 0 0)) : ObjAt w B g o (.slice none 0 0) := ⟨e ▸ hB, by rw [hk]; exact World.ownsRow_nil _ _ _ _, fun x on h => by rw [ht] at h; cases h⟩
theorem no_at {w : World} {B gT gM g : Nat} {t : Tab} {kv : Nat → Value} (h : TabAt w B gT gM t kv) (hg : w.heap.size ≤ g) : t.ob g = none := by
  cases ho : t.ob g with
  | none => rfl
  | some o => exact absurd (h.ob g o ho).blk.lt (Nat.not_lt.2 hg)
theorem fit_len1 (g1 : Nat) : ∀ x q, (T1 g1).ob x = some q → q.kids.length ≤ 100000 := fun x q h => by
  by_cases e : x = g1
  · subst e
    have h : upd (fun _ => (none : Option TO)) x (some rootO) x = some q := h
    rw [upd_self] at h
    injection h with h
    subst h
    simp
  · have h : upd (fun _ => (none : Option TO)) g1 (some rootO) x = some q := h
    rw [upd_ne e] at h
    cases h
theorem fit_len2 {g1 g2 : Nat} (hne : g2 ≠ g1) : ∀ x q, (T2 g1 g2).ob x = some q → q.kids.length ≤ 100000 := fun x q h => by
  by_cases e : x = g2
  · subst e
    rw [fit_ob2] at h
    injection h with h
    subst h
    simp
  · by_cases e1 : x = g1
    · subst e1
      rw [fit_ob1 hne] at h
      injection h with h
      subst h
      simp
    · have h : upd (upd (upd (fun _ => (none : Option TO)) g1 (some rootO)) g1 (some rootK)) g2 (some kidO) x = some q := h
      rw [upd_ne e, upd_ne e1, upd_ne e1] at h
      cases h
theorem bd_48c {n k h : Int} {d : Nat} {t : TypeId} {p : String} {af : Array Edge} {g : Option (Nat × Bool)} : DoneRun Try.prog ⟨some d, .build 48 #[(1, .const (.int .u64 n)), (2, .const (.int .i64 k)), (4, .const (.int .u64 h))], t, p, af, g⟩ (.agg #[.slice none 0 0, .int .u64 0, .int .u64 n, .int .i64 k, .int .i64 0, .slice none 0 0, .int .u64 h, .int .u64 0, .int .i64 0, .int .i64 0, .int .i64 0, .int .i64 0, .int .u64 0, .int .u64 0, .int .u64 0, .slice none 0 0, .slice none 0 0, .int .u64 0, .slice none 0 0, nilP, .int .i64 0, .slice none 0 0, .int .u64 0, .int .u64 0, .slice none 0 0, .slice none 0 0, .slice none 0 0, .slice none 0 0, .slice none 0 0, .slice none 0 0, .slice none 0 0, .slice none 0 0, .int .i64 0, .int .i64 0, .int .i64 0, .slice none 0 0]) := fun ev w hc => by go_simp
set_option maxRecDepth 100000 in
/-- The example. -/
theorem cFit {w : World} : Calls Try.prog 13 #[] w fun e w' => ∃ v, e = .returned v ∧ v = .bool true ∧ Below w.heap.size w w' := by
  have z0 : OnlyB (fun _ => False) w w := OnlyB.refl _ _
  go_enter Try.func13, Try.ntmps13
  refine wp_seq ?_
  refine flowC mixed (st0 (U := False) (N := 44) (e := []) (F := noF) rfl rfl (fok_no _ _) True.intro) (by kernel_rfl) (by kernel_rfl) (cc rfl (p_assign g0 (oc _)) cn) fun a1 w1 b1 s1 => ?_
  have z1 := z0.below b1
  refine wp_seq ?_
  refine wp_region_lit ?_
  refine with_st (s1.keep sn) fun s1 => ?_
  show wpList _ _ _ (_ :: _) _ _
  refine callO (R := fun v w' => ∃ gT gM, v = ptrV gT ∧ TabAt w' w1.heap.size gT gM T0 (fun _ => .slice none 0 0) ∧ Below w1.heap.size w1 w') [] s1 (by simp [Region.wanted]) (fun _ _ => by kernel_rfl) rfl (by decide) cNew vn fun v2 a2 w2 hR2 s2 => ?_
  obtain ⟨gT, gM, rfl, hT, b2⟩ := hR2
  have z2 := z1.below b2
  have hbase := z1.size
  refine chainK 1 (cc rfl (p_assign g0 (od rfl id)) cn) (by kernel_rfl) s2 fun a3 w3 b3 s3 => ?_
  have z3 := z2.below b3
  have hT := hT.below b3
  refine wpList_done ?_
  refine wp_seq ?_
  refine wp_seq ?_
  refine flowC mixed (s3.keep (sc 1 rfl sn)) (by kernel_rfl) (by kernel_rfl) (cc rfl (p_move g0 (od rfl id))
      (cc rfl (p_bin g0 (od rfl id) (oc _) b_eqT) cn)) fun a4 w4 b4 s4 => ?_
  have z4 := z3.below b4
  have hT := hT.below b4
  refine s4.cond 6 rfl (fun h => absurd h (by simp)) fun _ => ?_
  refine wp_skip ?_
  refine wp_seq ?_
  refine wp_region_lit ?_
  refine with_st (s4.keep (sc 1 rfl sn)) fun s4 => ?_
  refine chainK 2 (cc rfl (p_move g0 (od rfl id))
      (cc rfl (p_done (y := .val _) bd_48a (fun _ _ => rfl) g0) cn)) (by kernel_rfl) s4 fun a5 w5 b5 s5 => ?_
  have z5 := z4.below b5
  have hT := hT.below b5
  show wpList _ _ _ (_ :: _) _ _
  refine alloc_on (u := 48) (z := toC rootO (.slice none 0 0)) s5 (by simp [Region.wanted]) rfl (by decide) (bx_48 _ _ _ (s5.get 8 rfl)) (vv 1 rfl (vv 7 rfl vn)) fun gr a6 w6 hBgr hgr b6 s6 => ?_
  have hngr : (T0 : Tab).ob gr = none := no_at hT hgr
  have hgr := Nat.le_trans (Nat.le_of_lt (Nat.lt_of_le_of_lt hT.bT hT.tb.lt)) hgr
  have z6 := z5.below b6
  have hT := hT.below b6
  have hO := objAt0 (B := w1.heap.size) (o := rootO) rfl rfl hBgr rfl
  show wpList _ _ _ (_ :: _) _ _
  refine callO [.tmp 7, .tmp 9] s6 (by simp [Region.wanted]) (fun _ _ => by kernel_rfl) rfl (by decide) (show Calls Try.prog 15 #[a6.tmps.getD 7 undef, a6.tmps.getD 9 undef] w6 _ from by rw [show a6.tmps.getD 7 undef = ptrV gT from s6.get 7 rfl, show a6.tmps.getD 9 undef = ptrV gr from s6.get 9 rfl]; exact cAdd hT hO hgr hngr (fun _ _ h => by cases h) (fun _ _ h => by cases h)) (vv 1 rfl vn) fun v7 a7 w7 hR7 s7 => ?_
  obtain ⟨rfl, _, hyes⟩ := hR7
  obtain ⟨kv1, hT2, zA, _⟩ := hyes (fit_1 gr).1
  rw [(fit_1 gr).2] at hT2
  have s7 := s7.more 10 (y := .bool true) (by rw [show _ = _ from s7.get 10 rfl, (fit_1 gr).1]; rfl)
  have z7 := z6.trans zA (fun x hx hS => absurd (Nat.le_trans hbase (hT.lt hS).1) (Nat.not_le.2 hx))
  have hT := hT2
  refine chainK 1 (cc rfl (p_assign g0 (od rfl id)) cn) (by kernel_rfl) s7 fun a8 w8 b8 s8 => ?_
  have z8 := z7.below b8
  have hT := hT.below b8
  refine wpList_done ?_
  refine wp_seq ?_
  refine wp_region_lit ?_
  refine with_st (s8.keep (sc 1 rfl (sc 2 rfl sn))) fun s8 => ?_
  refine chainK 2 (cc rfl (p_move g0 (od rfl id))
      (cc rfl (p_done (y := .val _) bd_48c (fun _ _ => rfl) g0) cn)) (by kernel_rfl) s8 fun a9 w9 b9 s9 => ?_
  have z9 := z8.below b9
  have hT := hT.below b9
  show wpList _ _ _ (_ :: _) _ _
  refine alloc_on (u := 48) (z := toC kidO (.slice none 0 0)) s9 (by simp [Region.wanted]) rfl (by decide) (bx_48 _ _ _ (s9.get 12 rfl)) (vv 1 rfl (vv 2 rfl (vv 11 rfl vn))) fun g2 a10 w10 hBg2 hg2 b10 s10 => ?_
  have hng2 : (T1 gr : Tab).ob g2 = none := no_at hT hg2
  have hg2 := Nat.le_trans (Nat.le_of_lt (Nat.lt_of_le_of_lt hT.bT hT.tb.lt)) hg2
  have z10 := z9.below b10
  have hT := hT.below b10
  have hO := objAt0 (B := w1.heap.size) (o := kidO) rfl rfl hBg2 rfl
  show wpList _ _ _ (_ :: _) _ _
  refine callO [.tmp 11, .tmp 13] s10 (by simp [Region.wanted]) (fun _ _ => by kernel_rfl) rfl (by decide) (show Calls Try.prog 15 #[a10.tmps.getD 11 undef, a10.tmps.getD 13 undef] w10 _ from by rw [show a10.tmps.getD 11 undef = ptrV gT from s10.get 11 rfl, show a10.tmps.getD 13 undef = ptrV g2 from s10.get 13 rfl]; exact cAdd hT hO hg2 hng2 (fit_ok1 gr) (fit_len1 gr)) (vv 1 rfl (vv 2 rfl vn)) fun v11 a11 w11 hR11 s11 => ?_
  obtain ⟨rfl, _, hyes⟩ := hR11
  obtain ⟨kv2, hT2, zA, _⟩ := hyes (fit_2 (g1 := gr) (g2 := g2)).1
  rw [(fit_2 (g1 := gr) (g2 := g2)).2] at hT2
  have s11 := s11.more 14 (y := .bool true) (by rw [show _ = _ from s11.get 14 rfl, (fit_2 (g1 := gr) (g2 := g2)).1]; rfl)
  have z11 := z10.trans zA (fun x hx hS => absurd (Nat.le_trans hbase (hT.lt hS).1) (Nat.not_le.2 hx))
  have hT := hT2
  refine chainK 1 (cc rfl (p_assign g0 (od rfl id)) cn) (by kernel_rfl) s11 fun a12 w12 b12 s12 => ?_
  have z12 := z11.below b12
  have hT := hT.below b12
  refine wpList_done ?_
  refine wp_seq ?_
  have hne : g2 ≠ gr := fun e => by rw [e, show (T1 gr).ob gr = some rootO from upd_self (f := fun _ => none)] at hng2; cases hng2
  refine wp_region_lit ?_
  refine with_st (s12.keep (sc 1 rfl (sc 2 rfl (sc 3 rfl sn)))) fun s12 => ?_
  refine chainK 6 (cc rfl (p_move g0 (od rfl id))
      (cc rfl (p_move g0 (od rfl id))
      (cc rfl (p_move (g1 rfl rfl) (od rfl (fun _ => rfl)))
      (cc rfl (p_and g0 (od rfl id) (od rfl id))
      (cc rfl (p_move g0 (od rfl id))
      (cc rfl (p_move (g1 rfl rfl) (od rfl (fun _ => rfl))) cn)))))) (by kernel_rfl) s12 fun a13 w13 b13 s13 => ?_
  have z13 := z12.below b13
  have hT := hT.below b13
  show wpList _ _ _ (_ :: _) _ _
  have s13 := s13.more 19 (y := .bool true) (s13.get 19 rfl)
  refine callO [.tmp 20] s13 (Eq.trans (s13.wanted (g1 rfl rfl) rfl) rfl) (fun _ _ => by kernel_rfl) rfl (by decide) (show Calls Try.prog 18 #[a13.tmps.getD 20 undef] w13 _ from by rw [show a13.tmps.getD 20 undef = ptrV gT from s13.get 20 rfl]; exact cLen hT) (vv 1 rfl (vv 19 rfl vn)) fun v14 a14 w14 hR14 s14 => ?_
  obtain ⟨rfl, b14⟩ := hR14
  have s14 := s14.more 21 (y := .int .i64 2) (s14.get 21 rfl)
  have z14 := z13.below b14
  have hT := hT.below b14
  refine chainK 4 (cc rfl (p_bin (g1 rfl rfl) (od rfl (fun _ => rfl)) (oc _) b_eql_3)
      (cc rfl (p_and g0 (od rfl id) (od rfl id))
      (cc rfl (p_move g0 (od rfl id))
      (cc rfl (p_move (g1 rfl rfl) (od rfl (fun _ => rfl))) cn)))) (by kernel_rfl) s14 fun a15 w15 b15 s15 => ?_
  have z15 := z14.below b15
  have hT := hT.below b15
  show wpList _ _ _ (_ :: _) _ _
  have s15 := s15.more 24 (y := .bool true) (s15.get 24 rfl)
  refine callO [.tmp 25, .const (.int .u64 5), .const (.int .u64 1)] s15 (Eq.trans (s15.wanted (g1 rfl rfl) rfl) rfl) (fun _ _ => by kernel_rfl) rfl (by decide) (show Calls Try.prog 36 #[a15.tmps.getD 25 undef, .int .u64 5, .int .u64 1] w15 _ from by rw [show a15.tmps.getD 25 undef = ptrV gT from s15.get 25 rfl]; exact cIn fit_in1 hT) (vv 1 rfl (vv 24 rfl vn)) fun v16 a16 w16 hR16 s16 => ?_
  obtain ⟨rfl, b16⟩ := hR16
  have s16 := s16.more 26 (y := .bool true) (s16.get 26 rfl)
  have z16 := z15.below b16
  have hT := hT.below b16
  refine chainK 3 (cc rfl (p_and g0 (od rfl id) (od rfl id))
      (cc rfl (p_move g0 (od rfl id))
      (cc rfl (p_move (g1 rfl rfl) (od rfl (fun _ => rfl))) cn))) (by kernel_rfl) s16 fun a17 w17 b17 s17 => ?_
  have z17 := z16.below b17
  have hT := hT.below b17
  show wpList _ _ _ (_ :: _) _ _
  have s17 := s17.more 28 (y := .bool true) (s17.get 28 rfl)
  refine callO [.tmp 29, .const (.int .u64 1), .const (.int .u64 5)] s17 (Eq.trans (s17.wanted (g1 rfl rfl) rfl) rfl) (fun _ _ => by kernel_rfl) rfl (by decide) (show Calls Try.prog 36 #[a17.tmps.getD 29 undef, .int .u64 1, .int .u64 5] w17 _ from by rw [show a17.tmps.getD 29 undef = ptrV gT from s17.get 29 rfl]; exact cIn (fit_in2 hne) hT) (vv 1 rfl (vv 28 rfl vn)) fun v18 a18 w18 hR18 s18 => ?_
  obtain ⟨rfl, b18⟩ := hR18
  have s18 := s18.more 30 (y := .bool false) (s18.get 30 rfl)
  have z18 := z17.below b18
  have hT := hT.below b18
  refine chainK 4 (cc rfl (p_not (g1 rfl rfl) (od rfl (fun _ => rfl)))
      (cc rfl (p_and g0 (od rfl id) (od rfl id))
      (cc rfl (p_move g0 (od rfl id))
      (cc rfl (p_move (g1 rfl rfl) (od rfl (fun _ => rfl))) cn)))) (by kernel_rfl) s18 fun a19 w19 b19 s19 => ?_
  have z19 := z18.below b19
  have hT := hT.below b19
  show wpList _ _ _ (_ :: _) _ _
  have s19 := s19.more 33 (y := .bool true) (s19.get 33 rfl)
  refine callO [.tmp 34, .const (.int .u64 1)] s19 (Eq.trans (s19.wanted (g1 rfl rfl) rfl) rfl) (fun _ _ => by kernel_rfl) rfl (by decide) (show Calls Try.prog 16 #[a19.tmps.getD 34 undef, .int .u64 1] w19 _ from by rw [show a19.tmps.getD 34 undef = ptrV gT from s19.get 34 rfl]; exact cRem hT (fit_ok2 hne) (fit_len2 hne) fit_l1 (fit_ob1 hne) (fit_rem hne) (by simp)) (vv 1 rfl (vv 33 rfl vn)) fun v20 a20 w20 hR20 s20 => ?_
  obtain ⟨kv3, hrow, hT2, zA, _⟩ := hR20
  obtain ⟨A, c, rfl⟩ := own_slice hrow
  have z20 := z19.trans zA (fun x hx hS => absurd (Nat.le_trans hbase (hT.lt hS).1) (Nat.not_le.2 hx))
  have hT := hT2
  refine chainK 5 (cc rfl (p_lenV ln_49 (g1 rfl rfl) (od rfl (fun _ => rfl)))
      (cc rfl (p_bin (g1 rfl rfl) (od rfl id) (oc _) b_eql_3)
      (cc rfl (p_and g0 (od rfl id) (od rfl id))
      (cc rfl (p_move g0 (od rfl id))
      (cc rfl (p_move (g1 rfl rfl) (od rfl (fun _ => rfl))) cn))))) (by kernel_rfl) s20 fun a21 w21 b21 s21 => ?_
  have z21 := z20.below b21
  have hT := hT.below b21
  show wpList _ _ _ (_ :: _) _ _
  have s21 := s21.more 39 (y := .bool true) (s21.get 39 rfl)
  refine callO [.tmp 40] s21 (Eq.trans (s21.wanted (g1 rfl rfl) rfl) rfl) (fun _ _ => by kernel_rfl) rfl (by decide) (show Calls Try.prog 18 #[a21.tmps.getD 40 undef] w21 _ from by rw [show a21.tmps.getD 40 undef = ptrV gT from s21.get 40 rfl]; exact cLen hT) (vv 1 rfl (vv 39 rfl vn)) fun v22 a22 w22 hR22 s22 => ?_
  obtain ⟨rfl, b22⟩ := hR22
  have s22 := s22.more 41 (y := .int .i64 0) (s22.get 41 rfl)
  have z22 := z21.below b22
  have hT := hT.below b22
  refine chainK 3 (cc rfl (p_bin (g1 rfl rfl) (od rfl (fun _ => rfl)) (oc _) b_eql_3)
      (cc rfl (p_and g0 (od rfl id) (od rfl id))
      (cc rfl (p_assign g0 (od rfl id)) cn))) (by kernel_rfl) s22 fun a23 w23 b23 s23 => ?_
  have z23 := z22.below b23
  have hT := hT.below b23
  refine wpList_done ?_
  exact wp_ret (ret_o (fn := Try.f13) (R := fun v w' => v = .bool true ∧ Below w.heap.size w w') (v := .bool true) s23 0 rfl rfl ⟨rfl, z23.to_below (fun _ _ h => h) (Nat.le_refl _)⟩)

end Go.Proofs.Ytbeeiecbbmiojaa.Y

/- Ytk: a root and what is in it, in plain Lean -/
namespace Go.Proofs.Ytbeeiecbbmiojaa.Y
open Go.RowKit Go.ChangeShapes Go.WideShapes Go.ChangeAt Go.ChangeMaps Go.MapKept

/-- No container holds more than that many. -/
def LenB (t : Tab) (k : Nat) : Prop := ∀ x q, t.ob x = some q → q.kids.length ≤ k
theorem LenB.mono {t : Tab} {k j : Nat} (h : LenB t k) (hk : k ≤ j) : LenB t j := fun x q hq => Nat.le_trans (h x q hq) hk
theorem lenB_upd {ob : Nat → Option TO} {k g : Nat} {o : TO} {tm tm' : List (Int × Nat)} (h : LenB ⟨tm, ob⟩ k) (ho : o.kids.length ≤ k) : LenB ⟨tm', upd ob g (some o)⟩ k := fun x q hq => by
  replace hq : upd ob g (some o) x = some q := hq
  by_cases e : x = g
  · subst e
    rw [upd_self] at hq
    injection hq with hq
    exact hq ▸ ho
  · rw [upd_ne e] at hq
    exact h x q hq
theorem homeOf_ob {t : Tab} {o q : TO} {g : Nat} (h : homeOf t o = some (g, q)) : t.ob g = some q := by
  unfold homeOf at h
  cases h1 : t.tm.lookup o.home with
  | none => rw [h1] at h; cases h
  | some g2 =>
    rw [h1] at h
    cases h2 : t.ob g2 with
    | none => simp [h2] at h
    | some q2 =>
      simp [h2] at h
      obtain ⟨rfl, rfl⟩ := h
      exact h2
theorem LenB.rem {t : Tab} {k : Nat} {n : Int} {o : TO} {tm' : List (Int × Nat)} (h : LenB t k) : LenB ⟨tm', remO t n o⟩ k := by
  unfold remO
  cases hh : homeOf t o with
  | none => exact h
  | some p =>
    obtain ⟨g, q⟩ := p
    exact lenB_upd (tm := t.tm) h (Nat.le_trans (List.length_filter_le _ _) (h g q (homeOf_ob hh)))
theorem LenB.add {t : Tab} {k g : Nat} {o : TO} (h : LenB t k) (ho : o.kids.length ≤ k) : LenB (addT t g o) (k + 1) := by
  unfold addT
  refine lenB_upd (tm := t.tm) ?_ (Nat.le_succ_of_le ho)
  unfold addO
  cases hh : homeOf t o with
  | none => exact LenB.mono h (Nat.le_succ k)
  | some p =>
    obtain ⟨g2, q⟩ := p
    exact lenB_upd (tm := t.tm) (LenB.mono h (Nat.le_succ k)) (by rw [List.length_append]; exact Nat.succ_le_succ (h g2 q (homeOf_ob hh)))
theorem lenB_T1 (g1 : Nat) : LenB (T1 g1) 0 := lenB_upd (tm := []) (k := 0) (ob := fun _ => none) (fun _ _ h => by cases h) (Nat.le_refl _)
theorem KInv.ok {t : Tab} {g1 : Nat} {want : List Int} (h : KInv t g1 want) : t.Ok := fun n g hn => by
  rcases List.mem_cons.1 (h.keys.mem_iff.1 (keys_mem hn)) with e | e
  · subst e
    rw [h.root] at hn
    injection hn with hn
    subst hn
    exact ⟨_, h.ro, rfl⟩
  · obtain ⟨_, _, g2, a3, _, a5⟩ := h.kid n e
    rw [a3] at hn
    injection hn with hn
    subst hn
    exact ⟨_, a5, rfl⟩
theorem kinv_T1 (g1 : Nat) : KInv (T1 g1) g1 [] := ⟨by simp [List.lookup], upd_self (f := fun _ => none), (fun _ h => by cases h), by simp, by simp⟩
theorem nil_filter {want : List Int} {n : Int} (h : n ∉ want) : want.filter (· != n) = want := List.filter_eq_self.2 fun m hm => by
  have : m ≠ n := fun e => h (e ▸ hm)
  simpa using this
theorem less_filter {want : List Int} {n : Int} : (decide ((want.filter (· != n)).length < want.length)) = decide (n ∈ want) := by
  by_cases h : n ∈ want
  · rw [decide_eq_true h]
    refine decide_eq_true ?_
    rcases Nat.lt_or_eq_of_le (List.length_filter_le (· != n) want) with h1 | h1
    · exact h1
    · exact absurd (List.length_filter_eq_length_iff.1 h1 n h) (by simp)
  · rw [decide_eq_false h, nil_filter h]
    exact decide_eq_false (Nat.lt_irrefl _)
theorem filter_gone {want : List Int} {n : Int} : n ∉ want.filter (· != n) := fun h => by simpa using (List.mem_filter.1 h).2

end Go.Proofs.Ytbeeiecbbmiojaa.Y

/- Ytq: what the law on kids needs -/
namespace Go.Proofs.Ytbeeiecbbmiojaa.Y
open Go.RowKit Go.ChangeShapes Go.WideShapes Go.ChangeAt Go.ChangeMaps Go.MapKept

section
variable {d : Nat} {t : TypeId} {p : String} {af : Array Edge} {g : Option (Nat × Bool)} {x x2 : Operand}
theorem ix_22 : IndexRun Try.prog ⟨some d, .indexAddr 22 x x2, t, p, af, g⟩ x x2 1 := fun ev w b off len cap i h1 h2 h3 => by
  have hd : decide ((0 : Int) ≤ i) = true := by simp
  have hd2 : decide ((i : Int) < len) = true := by simp; omega
  go_simp
theorem ln_22 : LenRun Try.prog ⟨some d, .call { callee := .builtin .len, args := #[x], argTypes := #[22] }, t, p, af, g⟩ x := fun ev w A len cap h1 => by go_simp
theorem bs_29 {z : Int} : ∀ (ev : Operand → Value) (w : World), ev x = .int .u64 z → (execOp ev ⟨some d, .buildSlice 29 1 #[(0, x)], t, p, af, g⟩).run Try.prog w = .ok (.value (.slice (some ⟨w.heap.size, 0, none⟩) 1 1)) (w.alloc (.cells #[.int .u64 z] 28)) := fun ev w h1 => by go_simp
theorem cv_3_28 {a : Int} : Run1 Try.prog ⟨some d, .convert 3 28 x, t, p, af, g⟩ x (.int .i64 a) (.int .u64 (IntKind.u64.wrap a)) := fun ev w h1 => by go_simp
end
theorem p_cvE {P : Program} {U : Prop} {ops : Array Oper} {Q : Exit → Act → World → Prop} {N d : Nat} {e : Env} {t : TypeId} {p : String} {af : Array Edge} {g : Option (Nat × Bool)} {c : Bool} {x : Operand} {u u' : TypeId} {v : Value} {k : IntKind} {n n' : Int} (hn : n = n') (hg : GdE ops e g c) (hx : OpdE e c x (.val v)) (hr : Run1 P ⟨some d, .convert u u' x, t, p, af, g⟩ x v (.int k n)) : Pays U P ops Q N e ⟨some d, .convert u u' x, t, p, af, g⟩ (c, .int k n') := hn ▸ p_conv hg hx hr
theorem opens_i3 : Opens Try.prog 3 (Lay.int .i64) (fun _ => True) := opens_mono (fun _ _ => True.intro) (opens_int Try.underlying3)
theorem opens_i22 : Opens Try.prog 22 (Lay.sl (Lay.int .i64)) (fun l => l.length ≤ maxLen) := opens_mono (fun _ h => h.1) (opens_slice ⟨0⟩ Try.underlying22 (by kernel_rfl) (by decide) opens_i3)
theorem at_in {y : Sym} {w wr : World} {v v0 : Value} (h : y.on w noF v0) (hz : OnlyB (fun _ => False) w wr) (hv : v = v0) : y.on wr noF v := by
  subst hv
  exact y.mono h (.of (hz.to_below (fun _ _ h => h) (Nat.le_refl _))) fun _ _ h => h
theorem at_row {w : World} {B : Nat} {u v : Value} {l : List Int} (h : w.ownsRow B 28 1 u l.length (l.flatMap kE)) (hv : v = u) : (Sym.both (.val u) (.one (Lay.sl (Lay.int .u64)) l)).on w noF v := by
  subst hv
  exact ⟨rfl, sl_of_own kF h (F := noF) fun _ _ _ _ h => h⟩
theorem own_lt {w : World} {B E k n i : Nat} {v : Value} {xs : List Value} (h : w.ownsRow B E k v n xs) (e : v.ownBlock = some i) : i < w.heap.size := by
  obtain ⟨_, cs, hb⟩ := own_row_blk h e
  exact hb.lt
/-- Rows apart from a table stay so. -/
theorem apart_tab {w : World} {B n gT gM : Nat} {t t2 : Tab} {kv kv2 : Nat → Value} {u : Value} {xs : List Value} (hu : w.ownsRow B 28 1 u n xs) (hs : ∀ j, TabB gT gM t kv j → u.ownBlock ≠ some j) (h2 : ∀ i, TabB gT gM t2 kv2 i → TabB gT gM t kv i ∨ w.heap.size ≤ i) : ∀ j, TabB gT gM t2 kv2 j → u.ownBlock ≠ some j := fun j hj e => (h2 j hj).elim (fun h => hs j h e) fun h => absurd (own_lt hu e) (Nat.not_lt.2 h)
theorem apart_add {w : World} {B n gT gM g : Nat} {t t2 : Tab} {kv kv2 : Nat → Value} {u : Value} {xs : List Value} {o : TO} {cs : Array Value} (hu : w.ownsRow B 28 1 u n xs) (hO : Blk w g 48 cs) (hs : ∀ j, TabB gT gM t kv j → u.ownBlock ≠ some j) (hth : o.th = none) (h2 : ∀ i, TabB gT gM t2 kv2 i → TabB gT gM t kv i ∨ i = g ∨ (∃ on, o.th = some (i, on)) ∨ w.heap.size ≤ i) : ∀ j, TabB gT gM t2 kv2 j → u.ownBlock ≠ some j := fun j hj e => by
  rcases h2 j hj with h | h | ⟨_, h⟩ | h
  · exact hs j h e
  · subst h; exact row_ne hO hu (by decide) e
  · rw [hth] at h; cases h
  · exact absurd (own_lt hu e) (Nat.not_lt.2 h)
theorem apart_app {w : World} {B gT gM : Nat} {t : Tab} {kv : Nat → Value} {v v' : Value} (hT : TabAt w B gT gM t kv) (h : v'.ownBlock = v.ownBlock ∨ v'.ownBlock = some w.heap.size) (hs : ∀ j, TabB gT gM t kv j → v.ownBlock ≠ some j) : ∀ j, TabB gT gM t kv j → v'.ownBlock ≠ some j := fun j hj e => by
  rcases h with h | h
  · exact hs j hj (h ▸ e)
  · rw [h] at e
    injection e with e
    exact Nat.lt_irrefl _ (e ▸ (hT.lt hj).2)
theorem apart_row {w : World} {B n : Nat} {u v v' : Value} {xs : List Value} (hu : w.ownsRow B 28 1 u n xs) (h : v'.ownBlock = v.ownBlock ∨ v'.ownBlock = some w.heap.size) (hs : u.ownBlock = none ∨ u.ownBlock ≠ v.ownBlock) : u.ownBlock = none ∨ u.ownBlock ≠ v'.ownBlock := by
  cases hb : u.ownBlock with
  | none => exact .inl rfl
  | some i =>
    right
    rcases h with h | h
    · rw [h]
      rcases hs with hs | hs
      · rw [hb] at hs; cases hs
      · rw [← hb]; exact hs
    · rw [h]
      intro e
      injection e with e
      exact Nat.lt_irrefl _ (e ▸ own_lt hu hb)
theorem cRemK {w : World} {B gT gM g1 k : Nat} {t : Tab} {kv : Nat → Value} {want : List Int} {n : Int} (hT : TabAt w B gT gM t kv) (hK : KInv t g1 want) (hL : LenB t k) (hk : k ≤ 100000) (h1 : n ≠ 1) : Calls Try.prog 16 #[ptrV gT, .int .u64 n] w fun e w' => ∃ v, e = .returned v ∧ ∃ A c t2 kv2, v = .slice A (if n ∈ want then 1 else 0) c ∧ TabAt w' B gT gM t2 kv2 ∧ KInv t2 g1 (want.filter (· != n)) ∧ LenB t2 k ∧ OnlyB (TabB gT gM t kv) w w' ∧ ∀ i, TabB gT gM t2 kv2 i → TabB gT gM t kv i ∨ w.heap.size ≤ i := by
  by_cases hn : n ∈ want
  · obtain ⟨g, a1, a2, a3, a4, a5⟩ := hK.rem hn
    refine (cRem hT hK.ok (fun x q hq => Nat.le_trans (hL x q hq) hk) a1 a3 a4 (by simp)).mono ?_
    rintro _ w' ⟨v, rfl, kv', hrow, hT', hz, hB⟩
    obtain ⟨A, c, rfl⟩ := own_slice hrow
    exact ⟨_, rfl, A, c, _, kv', by rw [if_pos hn]; rfl, hT', a5, hL.rem, hz, hB⟩
  · refine (cRem0 hT (hK.none h1 hn)).mono ?_
    rintro _ w' ⟨v, rfl, rfl, hb⟩
    exact ⟨_, rfl, none, 0, t, kv, by rw [if_neg hn], hT.below hb, by rw [nil_filter hn]; exact hK, hL, (OnlyB.refl _ w).below hb, fun i hi => .inl hi⟩
theorem kids_same {want : List Int} {n : Int} : ((((if n ∈ want then 1 else 0 : Nat) : Int) == 1) != decide (((want.filter (· != n)).length : Int) < (want.length : Int))) = false := by
  have h := less_filter (want := want) (n := n)
  have e : decide (((want.filter (· != n)).length : Int) < (want.length : Int)) = decide ((want.filter (· != n)).length < want.length) := by
    rw [decide_eq_decide]; omega
  rw [e, h]
  by_cases hn : n ∈ want <;> simp [hn]
theorem take_filter {l : List Int} {j : Nat} {k : Int} {p : Int → Bool} (h : l[j]? = some k) : (l.take (j + 1)).filter p = (l.take j).filter p ++ (if p k then [k] else []) := by
  rw [List.take_add_one, h, List.filter_append]
  simp [List.filter_cons]
theorem name_of (x : Int) : IntKind.u64.wrap (IntKind.i64.wrap (bits .and .i64 x 7 + 2)) = x % 8 + 2 := by
  rw [i64_and7, IntKind.wrap_i64, IntKind.wrap_u64]
  omega
theorem kids_len {t : Tab} {g1 : Nat} {want : List Int} (h : KInv t g1 want) (hl : want.length ≤ 1000000) : ((t.tm.length : Int) == IntKind.i64.wrap ((want.length : Int) + 1)) = true := by
  rw [h.len, IntKind.wrap_i64, beq_iff_eq]
  omega
theorem apart_nil {u : Value} : u.ownBlock = none ∨ u.ownBlock ≠ (Value.slice none 0 0).ownBlock := by
  cases h : u.ownBlock with
  | none => exact .inl rfl
  | some i => exact .inr fun e => by cases e

end Go.Proofs.Ytbeeiecbbmiojaa.Y
