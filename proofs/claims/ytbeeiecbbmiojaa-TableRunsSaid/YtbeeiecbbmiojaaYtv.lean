/- Ytv: (*Table).Threads -/
import Derived.Test.YtbeeiecbbmiojaaMTc
namespace Go.Proofs.Ytbeeiecbbmiojaa.Y
open Go.RowKit Go.ChangeShapes Go.WideShapes Go.ChangeAt Go.ChangeMaps Go.MapKept

/-- Is that a thread on that core? -/
def isT (t : Tab) (on : Int) (g : Nat) : Bool := match t.ob g with
  | some o => o.kind == 3 && (match o.th with
    | some (_, x) => x == on
    | none => false)
  | none => false
theorem isT_no {t : Tab} {on : Int} {g : Nat} {o : TO} (h : t.ob g = some o) (hk : o.kind ≠ 3) : isT t on g = false := by
  unfold isT
  rw [h]
  simp [hk]
theorem isT_th {t : Tab} {on x : Int} {g y : Nat} {o : TO} (h : t.ob g = some o) (hk : o.kind = 3) (ht : o.th = some (y, x)) : isT t on g = (x == on) := by
  unfold isT
  rw [h]
  simp [hk, ht]
theorem take_filterN {l : List Nat} {j : Nat} {k : Nat} {p : Nat → Bool} (h : l[j]? = some k) : (l.take (j + 1)).filter p = (l.take j).filter p ++ (if p k then [k] else []) := by
  rw [List.take_add_one, h, List.filter_append]
  simp [List.filter_cons]
set_option maxRecDepth 100000 in
/-- The threads of a container on a core. -/
theorem cThr {w : World} {B gT gM : Nat} {t : Tab} {kv : Nat → Value} (hT : TabAt w B gT gM t kv) {n on : Int} {gh : Nat} {q : TO} {gs : List Nat} (hgl : t.tm.lookup n = some gh) (ho : t.ob gh = some q) (hk1 : q.kind = 1) (hp : pops t.tm q.kids = some gs) (hth : ∀ g ∈ gs, ∃ o, t.ob g = some o ∧ (o.kind = 3 → ∃ x y, o.th = some (x, y))) (hm : q.kids.length ≤ 100000) : Calls Try.prog 19 #[ptrV gT, .int .u64 n, .int .i64 on] w fun e w' => ∃ v, e = .returned v ∧ w'.ownsRow w.heap.size 27 1 v (gs.filter (isT t on)).length ((gs.filter (isT t on)).flatMap pE) ∧ Below w.heap.size w w' := by
  obtain ⟨i0, hi0, hz0, hz1, hz2⟩ := info_parts Try.info27
  have z0 : OnlyB (fun _ => False) w w := OnlyB.refl _ _
  go_enter Try.func19, Try.ntmps19
  refine wp_seq ?_
  refine flowC mixed (st0 (U := False) (N := 64) (e := [(0, true, .val (ptrV gT)), (1, true, .val (.int .u64 n)), (2, true, .val (.int .i64 on))]) (F := noF) rfl rfl (fok_no _ _) ⟨⟨rfl, rfl⟩, ⟨⟨rfl, rfl⟩, ⟨⟨rfl, rfl⟩, True.intro⟩⟩⟩) (by kernel_rfl) (by kernel_rfl) (cc rfl (p_assign g0 (oc _)) cn) fun a1 w1 b1 s1 => ?_
  have z1 := z0.below b1
  have hT := hT.below b1
  refine wp_seq ?_
  have s1 := s1.more 0 (y := .tab gT gM 104 t.vals) (at_tab hT (s1.get 0 rfl))
  refine flowC mixed (s1.keep (sc 0 rfl (sc 1 rfl (sc 2 rfl (sc 6 rfl sn))))) (by kernel_rfl) (by kernel_rfl) (cc rfl (p_move g0 (od rfl id))
      (cc rfl (p_nilT g0 (od rfl id))
      (cc rfl (p_faT fa_104_0 g0 (od rfl id))
      (cc rfl (p_ldT ld_102 g0 (od rfl id))
      (cc rfl (p_move g0 (od rfl id))
      (cc rfl (p_lookO Try.underlying102 Try.underlying28 zero27 (tab_look _ _) g0 (od rfl id) (od rfl id))
      (cc rfl (p_assign g0 (od rfl id)) cn))))))) fun a2 w2 b2 s2 => ?_
  have z2 := z1.below b2
  have hT := hT.below b2
  rw [hgl] at s2
  have s2 := s2.more 7 (y := .bp gh 48 (toC q (kv gh)) 0) (at_obj (hT.ob _ _ ho).blk (s2.get 7 rfl))
  have s2 := s2.more 0 (y := .val (ptrV gT)) (s2.get 0 rfl).1
  refine wp_seq ?_
  refine wp_seq ?_
  refine flowC mixed (s2.keep (sc 0 rfl (sc 2 rfl (sc 6 rfl (sc 7 rfl sn))))) (by kernel_rfl) (by kernel_rfl) (cc rfl (p_move g0 (od rfl id))
      (cc rfl (p_eqB g0 (od rfl id))
      (cc rfl (p_move g0 (od rfl id))
      (cc rfl (p_move (g1 rfl rfl) (od rfl (fun _ => rfl)))
      (cc rfl (p_nilB (g1 rfl rfl) (od rfl id))
      (cc rfl (p_faB fa_48_2 (g1 rfl rfl) (od rfl id))
      (cc rfl (p_ldB ld_3 rfl (g1 rfl rfl) (od rfl id))
      (cc rfl (p_bin (g1 rfl rfl) (od rfl id) (oc _) b_neq_3)
      (cc rfl (p_or g0 (od rfl id) (od rfl id)) cn))))))))) fun a3 w3 b3 s3 => ?_
  have z3 := z2.below b3
  have hT := hT.below b3
  refine s3.cond 26 rfl (fun h => absurd h (by simp [hk1])) fun _ => ?_
  refine wp_skip ?_
  refine wp_seq ?_
  refine flowC mixed (s3.keep (sc 0 rfl (sc 2 rfl (sc 6 rfl (sc 7 rfl sn))))) (by kernel_rfl) (by kernel_rfl) (cc rfl (p_assign g0 (oc _)) cn) fun a4 w4 b4 s4 => ?_
  have z4 := z3.below b4
  have hT := hT.below b4
  refine wp_seq ?_
  refine wp_seq ?_
  refine flowC mixed (s4.keep (sc 0 rfl (sc 2 rfl (sc 6 rfl (sc 7 rfl (sc 8 rfl sn)))))) (by kernel_rfl) (by kernel_rfl) (cc rfl (p_move g0 (od rfl id))
      (cc rfl (p_nilB g0 (od rfl id))
      (cc rfl (p_faB fa_48_9 g0 (od rfl id))
      (cc rfl (p_ldB ld_29 rfl g0 (od rfl id))
      (cc rfl (p_lenW (own_slice (hT.ob _ _ ho).row) ln_29 g0 (od rfl id))
      (cc rfl (p_move g0 (oc _)) cn)))))) fun a5 w5 b5 s5 => ?_
  have z5 := z4.below b5
  have hT := hT.below b5
  refine wp_block ?_
  refine wp_count q.kids.length 32 (fun j a wr => ∃ u, wr.ownsRow w.heap.size 27 1 u ((gs.take j).filter (isT t on)).length (((gs.take j).filter (isT t on)).flatMap pE) ∧ TabAt wr B gT gM t kv ∧ OnlyB (fun _ => False) w wr ∧ StE False 64 [(0, true, .val (ptrV gT)), (2, true, .val (.int .i64 on)), (8, true, .val u), (30, true, .val (kv gh)), (31, true, .int .i64 (q.kids.length : Int)), (32, true, .int .i64 (j : Int))] noF a wr) (fun _ _ _ ⟨_, _, _, _, h⟩ => h.get 32 rfl) ⟨.slice none 0 0, World.ownsRow_nil _ _ _ _, hT, z5, s5.to _ ⟨rfl, rfl, rfl, rfl, rfl, rfl, True.intro⟩⟩ fun j a6 w6 hj6 hJ => ?_
  obtain ⟨u, hu, hT, z6, s6⟩ := hJ
  refine wp_seq ?_
  refine flowC mixed (s6.keep (sc 0 rfl (sc 2 rfl (sc 8 rfl (sc 30 rfl (sc 31 rfl (sc 32 rfl sn))))))) (by kernel_rfl) (by kernel_rfl) (cc rfl (p_bin g0 (od rfl id) (od rfl id) b_lss_3) cn) fun a7 w7 b7 s7 => ?_
  have z7 := z6.below b7
  have hT := hT.below b7
  have hu := own_below hu b7
  refine wp_seq ?_
  refine s7.cond 33 rfl (fun h33 => ?_) (fun h33 => ?_)
  · -- true
    have hjl : j < q.kids.length := by have := of_decide_eq_true h33; (try dsimp only at this); omega
    obtain ⟨k, ek⟩ : ∃ x, q.kids[j]? = some x := ⟨_, List.getElem?_eq_getElem hjl⟩
    obtain ⟨gk, hlk, hgk⟩ := (pops_at hp).2 j k ek
    obtain ⟨o2, ho2, hth2⟩ := hth gk (List.mem_of_getElem? hgk)
    have tf := take_filterN (p := isT t on) hgk
    refine wp_skip ?_
    refine wp_seq ?_
    refine wp_block ?_
    refine wp_seq ?_
    have s7 := s7.more 30 (y := .both (.val (kv gh)) (.one (Lay.sl (Lay.int .u64)) q.kids)) (at_row (hT.ob _ _ ho).row (s7.get 30 rfl))
    refine flowC mixed (s7.keep (sc 0 rfl (sc 2 rfl (sc 8 rfl (sc 30 rfl (sc 31 rfl (sc 32 rfl (sc 33 rfl sn)))))))) (by kernel_rfl) (by kernel_rfl) (cc rfl (p_index ix_29 ek g0 (od2 rfl id) (od rfl id))
        (cc rfl (p_loadI ld_28 g0 (od rfl id))
        (cc rfl (p_assign g0 (od rfl id)) cn))) fun a8 w8 b8 s8 => ?_
    have z8 := z7.below b8
    have hT := hT.below b8
    have hu := own_below hu b8
    have s8 := s8.more 30 (y := .val (kv gh)) (s8.get 30 rfl).1
    refine wp_seq ?_
    have s8 := s8.more 0 (y := .tab gT gM 104 t.vals) (at_tab hT (s8.get 0 rfl))
    refine flowC mixed (s8.keep (sc 0 rfl (sc 2 rfl (sc 8 rfl (sc 10 rfl (sc 30 rfl (sc 31 rfl (sc 32 rfl (sc 33 rfl (sc 34 rfl (sc 35 rfl sn))))))))))) (by kernel_rfl) (by kernel_rfl) (cc rfl (p_move g0 (od rfl id))
        (cc rfl (p_nilT g0 (od rfl id))
        (cc rfl (p_faT fa_104_0 g0 (od rfl id))
        (cc rfl (p_ldT ld_102 g0 (od rfl id))
        (cc rfl (p_move g0 (od rfl id))
        (cc rfl (p_lookO Try.underlying102 Try.underlying28 zero27 (tab_look _ _) g0 (od rfl id) (od rfl id))
        (cc rfl (p_assign g0 (od rfl id)) cn))))))) fun a9 w9 b9 s9 => ?_
    have z9 := z8.below b9
    have hT := hT.below b9
    have hu := own_below hu b9
    rw [hlk] at s9
    have s9 := s9.more 0 (y := .val (ptrV gT)) (s9.get 0 rfl).1
    refine wp_seq ?_
    by_cases hk3 : o2.kind = 3
    · -- a thread
      obtain ⟨gx, x, hx⟩ := hth2 hk3
      have hX := ((hT.ob _ _ ho2).th _ _ hx).1
      rw [isT_th ho2 hk3 hx] at tf
      have hO2 := (hT.ob _ _ ho2).blk
      obtain ⟨nm, kd, hm2, ks, th⟩ := o2
      obtain rfl : kd = 3 := hk3
      obtain rfl : th = some (gx, x) := hx
      have s9 := s9.more 11 (y := .bp gk 48 (toC ⟨nm, 3, hm2, ks, some (gx, x)⟩ (kv gk)) 0) (at_obj hO2 (s9.get 11 rfl))
      refine wp_region_lit ?_
      refine with_st (s9.keep (sc 0 rfl (sc 2 rfl (sc 8 rfl (sc 10 rfl (sc 11 rfl (sc 30 rfl (sc 31 rfl (sc 32 rfl (sc 33 rfl (sc 34 rfl (sc 35 rfl (sc 36 rfl (sc 37 rfl (sc 38 rfl (sc 39 rfl (sc 40 rfl (sc 41 rfl sn)))))))))))))))))) fun s9 => ?_
      refine chainK 10 (cc rfl (p_move g0 (od rfl id))
          (cc rfl (p_nilB g0 (od rfl id))
          (cc rfl (p_faB fa_48_2 g0 (od rfl id))
          (cc rfl (p_ldB ld_3 rfl g0 (od rfl id))
          (cc rfl (p_bin g0 (od rfl id) (oc _) b_eql_3)
          (cc rfl (p_move g0 (od rfl id))
          (cc rfl (p_move (g1 rfl rfl) (od rfl (fun _ => rfl)))
          (cc rfl (p_nilB (g1 rfl rfl) (od rfl id))
          (cc rfl (p_faB fa_48_13 (g1 rfl rfl) (od rfl id))
          (cc rfl (p_ldB ld_42 rfl (g1 rfl rfl) (od rfl id)) cn)))))))))) (by kernel_rfl) s9 fun a10 w10 b10 s10 => ?_
      have z10 := z9.below b10
      have hT := hT.below b10
      have hu := own_below hu b10
      have hX := hX.below b10 hX.lt
      have q51 : a10.tmps.getD 51 undef = ptrV gx := s10.get 51 (y := .val (ptrV gx)) rfl
      have s10 := s10.more 51 (y := .bp gx 66 (thC x) 0) (at_obj hX q51)
      refine chainK 6 (cc rfl (p_nilB (g1 rfl rfl) (od rfl id))
          (cc rfl (p_faB fa_66_4 (g1 rfl rfl) (od rfl id))
          (cc rfl (p_ldB ld_3 rfl (g1 rfl rfl) (od rfl id))
          (cc rfl (p_move (g1 rfl rfl) (od rfl (fun _ => rfl)))
          (cc rfl (p_bin (g1 rfl rfl) (od rfl id) (od rfl id) b_eql_3)
          (cc rfl (p_and g0 (od rfl id) (od rfl id)) cn)))))) (by kernel_rfl) s10 fun a11 w11 b11 s11 => ?_
      have z11 := z10.below b11
      have hT := hT.below b11
      have hu := own_below hu b11
      have hX := hX.below b11 hX.lt
      refine wpList_done ?_
      refine s11.cond 57 rfl (fun h57 => ?_) (fun h57 => ?_)
      · -- true
        have hx57 : (x == on) = true := by simpa using h57
        rw [hx57, if_pos rfl] at tf
        have s11 := s11.more 11 (y := .val (ptrV gk)) (s11.get 11 rfl).1
        refine wp_region_lit ?_
        refine with_st (s11.keep (sc 0 rfl (sc 2 rfl (sc 8 rfl (sc 11 rfl (sc 30 rfl (sc 31 rfl (sc 32 rfl sn)))))))) fun s11 => ?_
        refine chainK 2 (cc rfl (p_move g0 (od rfl id))
            (cc rfl (p_move g0 (od rfl id)) cn)) (by kernel_rfl) s11 fun a12 w12 b12 s12 => ?_
        have z12 := z11.below b12
        have hT := hT.below b12
        have hu := own_below hu b12
        have hX := hX.below b12 hX.lt
        show wpList _ _ _ (_ :: _) _ _
        refine lit_on (u := 27) (z := #[ptrV gk]) s12 (by simp [Region.wanted]) rfl (by decide) (bs_49 _ _ (s12.get 59 rfl)) (vv 0 rfl (vv 2 rfl (vv 30 rfl (vv 31 rfl (vv 32 rfl (vv 58 rfl vn)))))) fun bl a13 w13 hlt hbl b13 s13 => ?_
        have z13 := z12.below b13
        have hT := hT.below b13
        have hu := own_below hu b13
        have hX := hX.below b13 hX.lt
        show wpList _ _ _ (_ :: _) _ _
        have hnt := tab_row hT hu
        have hbu : ∀ x, u.ownBlock = some x → w.heap.size ≤ x := fun x hx => own_base hu hx
        have hlf := List.length_filter_le (isT t on) (gs.take j)
        rw [List.length_take] at hlf
        refine app_on (cs := pE gk) s13 rfl rfl (by decide) rfl Try.underlying49 hi0 hz0 hz1 hz2 rfl (by decide) hu (s13.get 58 rfl) (s13.get 60 rfl) hlt rfl (fun u hu => by rw [List.mem_singleton.1 hu]; rfl) (by unfold maxLen; omega) (by omega) z13.size (vv 0 rfl (vv 2 rfl (vv 30 rfl (vv 31 rfl (vv 32 rfl vn))))) fun u2 a14 w14 hu2 gA _ s14 => ?_
        have hT := hT.grown gA hnt
        have z14 := z13.grown gA (fun x hx e => absurd (hbu x e) (Nat.not_le.2 hx))
        have hu : w14.ownsRow w.heap.size 27 1 u2 ((gs.take (j + 1)).filter (isT t on)).length (((gs.take (j + 1)).filter (isT t on)).flatMap pE) := by rw [tf, List.length_append, List.flatMap_append]; exact hu2
        refine chainK 1 (cc rfl (p_assign g0 (od rfl id)) cn) (by kernel_rfl) s14 fun a15 w15 b15 s15 => ?_
        have z15 := z14.below b15
        have hT := hT.below b15
        have hu := own_below hu b15
        refine wpList_done ?_
        refine flowT (s15.keep (sc 0 rfl (sc 2 rfl (sc 8 rfl (sc 30 rfl (sc 31 rfl (sc 32 rfl (sc 61 rfl sn)))))))) (by kernel_rfl) (cc rfl (p_bin g0 (od rfl id) (oc _) (inc_3 (by omega)))
            (cc rfl (p_move g0 (od rfl id)) cn)) fun a16 w16 b16 s16 => ?_
        have z16 := z15.below b16
        have hT := hT.below b16
        have hu := own_below hu b16
        exact ⟨hjl, _, hu, hT, z16, s16.to _ ⟨rfl, rfl, rfl, rfl, rfl, rfl, True.intro⟩⟩
      · -- false
        have hx57 : (x == on) = false := by simpa using h57
        rw [hx57, if_neg (by simp), List.append_nil] at tf
        rw [← tf] at hu
        refine wp_skip ?_
        refine flowT (s11.keep (sc 0 rfl (sc 2 rfl (sc 8 rfl (sc 10 rfl (sc 11 rfl (sc 30 rfl (sc 31 rfl (sc 32 rfl (sc 33 rfl (sc 34 rfl (sc 35 rfl (sc 36 rfl (sc 37 rfl (sc 38 rfl (sc 39 rfl (sc 40 rfl (sc 41 rfl (sc 42 rfl (sc 43 rfl (sc 44 rfl (sc 45 rfl (sc 46 rfl (sc 47 rfl (sc 48 rfl (sc 49 rfl (sc 50 rfl (sc 51 rfl (sc 52 rfl (sc 53 rfl (sc 54 rfl (sc 55 rfl (sc 56 rfl (sc 57 rfl sn)))))))))))))))))))))))))))))))))) (by kernel_rfl) (cc rfl (p_bin g0 (od rfl id) (oc _) (inc_3 (by omega)))
            (cc rfl (p_move g0 (od rfl id)) cn)) fun a17 w17 b17 s17 => ?_
        have z17 := z11.below b17
        have hT := hT.below b17
        have hu := own_below hu b17
        have hX := hX.below b17 hX.lt
        exact ⟨hjl, _, hu, hT, z17, s17.to _ ⟨rfl, rfl, rfl, rfl, rfl, rfl, True.intro⟩⟩
    · -- none
      rw [isT_no ho2 hk3, if_neg (by simp), List.append_nil] at tf
      rw [← tf] at hu
      have s9 := s9.more 11 (y := .bp gk 48 (toC o2 (kv gk)) 0) (at_obj (hT.ob _ _ ho2).blk (s9.get 11 rfl))
      refine flowC mixed (s9.keep (sc 0 rfl (sc 2 rfl (sc 8 rfl (sc 10 rfl (sc 11 rfl (sc 30 rfl (sc 31 rfl (sc 32 rfl (sc 33 rfl (sc 34 rfl (sc 35 rfl (sc 36 rfl (sc 37 rfl (sc 38 rfl (sc 39 rfl (sc 40 rfl (sc 41 rfl sn)))))))))))))))))) (by kernel_rfl) (by kernel_rfl) (cc rfl (p_move g0 (od rfl id))
          (cc rfl (p_nilB g0 (od rfl id))
          (cc rfl (p_faB fa_48_2 g0 (od rfl id))
          (cc rfl (p_ldB ld_3 rfl g0 (od rfl id))
          (cc rfl (p_bin g0 (od rfl id) (oc _) b_eql_3)
          (cc rfl (p_move g0 (od rfl id))
          (cc rfl (p_dead (g1 rfl rfl) (y := .any) (by simp [hk3]))
          (cc rfl (p_dead (g1 rfl rfl) (y := .any) (by simp [hk3]))
          (cc rfl (p_dead (g1 rfl rfl) (y := .any) (by simp [hk3]))
          (cc rfl (p_dead (g1 rfl rfl) (y := .any) (by simp [hk3]))
          (cc rfl (p_dead (g1 rfl rfl) (y := .any) (by simp [hk3]))
          (cc rfl (p_dead (g1 rfl rfl) (y := .any) (by simp [hk3]))
          (cc rfl (p_dead (g1 rfl rfl) (y := .any) (by simp [hk3]))
          (cc rfl (p_dead (g1 rfl rfl) (y := .any) (by simp [hk3]))
          (cc rfl (p_dead (g1 rfl rfl) (y := .bool false) (by simp [hk3]))
          (cc rfl (p_and g0 (od rfl id) (od rfl id)) cn)))))))))))))))) fun a18 w18 b18 s18 => ?_
      have z18 := z9.below b18
      have hT := hT.below b18
      have hu := own_below hu b18
      refine s18.cond 57 rfl (fun h => absurd h (by simp)) fun _ => ?_
      refine wp_skip ?_
      refine flowT (s18.keep (sc 0 rfl (sc 2 rfl (sc 8 rfl (sc 10 rfl (sc 11 rfl (sc 30 rfl (sc 31 rfl (sc 32 rfl (sc 33 rfl (sc 34 rfl (sc 35 rfl (sc 36 rfl (sc 37 rfl (sc 38 rfl (sc 39 rfl (sc 40 rfl (sc 41 rfl (sc 42 rfl (sc 43 rfl (sc 44 rfl (sc 45 rfl (sc 46 rfl (sc 47 rfl (sc 48 rfl (sc 49 rfl (sc 50 rfl (sc 51 rfl (sc 52 rfl (sc 53 rfl (sc 54 rfl (sc 55 rfl (sc 56 rfl (sc 57 rfl sn)))))))))))))))))))))))))))))))))) (by kernel_rfl) (cc rfl (p_bin g0 (od rfl id) (oc _) (inc_3 (by omega)))
          (cc rfl (p_move g0 (od rfl id)) cn)) fun a19 w19 b19 s19 => ?_
      have z19 := z18.below b19
      have hT := hT.below b19
      have hu := own_below hu b19
      exact ⟨hjl, _, hu, hT, z19, s19.to _ ⟨rfl, rfl, rfl, rfl, rfl, rfl, True.intro⟩⟩
  · -- false
    obtain rfl : j = q.kids.length := by have := of_decide_eq_false h33; (try dsimp only at this); omega
    rw [List.take_of_length_le (Nat.le_of_eq (pops_at hp).1)] at hu
    obtain ⟨A, c, rfl⟩ := own_slice hu
    refine wp_exit ?_
    refine wp_seq ?_
    refine flowC mixed (s7.keep (sc 0 rfl (sc 2 rfl (sc 8 rfl (sc 30 rfl (sc 31 rfl (sc 32 rfl sn))))))) (by kernel_rfl) (by kernel_rfl) (cc rfl (p_move g0 (od rfl id))
        (cc rfl (p_assign g0 (od rfl id)) cn)) fun a20 w20 b20 s20 => ?_
    have z20 := z7.below b20
    have hT := hT.below b20
    have hu := own_below hu b20
    exact wp_ret (ret_o (fn := Try.f19) (R := fun v w' => w'.ownsRow w.heap.size 27 1 v (gs.filter (isT t on)).length ((gs.filter (isT t on)).flatMap pE) ∧ Below w.heap.size w w') (v := .slice A _ c) s20 6 rfl rfl ⟨hu, z20.to_below (fun _ _ h => h) (Nat.le_refl _)⟩)
set_option maxRecDepth 100000 in
/-- No container: no threads. -/
theorem cThr0 {w : World} {B gT gM : Nat} {t : Tab} {kv : Nat → Value} (hT : TabAt w B gT gM t kv) {n on : Int} (hgl : t.tm.lookup n = none) : Calls Try.prog 19 #[ptrV gT, .int .u64 n, .int .i64 on] w fun e w' => ∃ v, e = .returned v ∧ v = .slice none 0 0 ∧ Below w.heap.size w w' := by
  have z0 : OnlyB (fun _ => False) w w := OnlyB.refl _ _
  go_enter Try.func19, Try.ntmps19
  refine wp_seq ?_
  refine flowC mixed (st0 (U := False) (N := 64) (e := [(0, true, .val (ptrV gT)), (1, true, .val (.int .u64 n)), (2, true, .val (.int .i64 on))]) (F := noF) rfl rfl (fok_no _ _) ⟨⟨rfl, rfl⟩, ⟨⟨rfl, rfl⟩, ⟨⟨rfl, rfl⟩, True.intro⟩⟩⟩) (by kernel_rfl) (by kernel_rfl) (cc rfl (p_assign g0 (oc _)) cn) fun a1 w1 b1 s1 => ?_
  have z1 := z0.below b1
  have hT := hT.below b1
  refine wp_seq ?_
  have s1 := s1.more 0 (y := .tab gT gM 104 t.vals) (at_tab hT (s1.get 0 rfl))
  refine flowC mixed (s1.keep (sc 0 rfl (sc 1 rfl (sc 2 rfl (sc 6 rfl sn))))) (by kernel_rfl) (by kernel_rfl) (cc rfl (p_move g0 (od rfl id))
      (cc rfl (p_nilT g0 (od rfl id))
      (cc rfl (p_faT fa_104_0 g0 (od rfl id))
      (cc rfl (p_ldT ld_102 g0 (od rfl id))
      (cc rfl (p_move g0 (od rfl id))
      (cc rfl (p_lookO Try.underlying102 Try.underlying28 zero27 (tab_look _ _) g0 (od rfl id) (od rfl id))
      (cc rfl (p_assign g0 (od rfl id)) cn))))))) fun a2 w2 b2 s2 => ?_
  have z2 := z1.below b2
  have hT := hT.below b2
  rw [hgl] at s2
  have s2 := s2.more 0 (y := .val (ptrV gT)) (s2.get 0 rfl).1
  refine wp_seq ?_
  refine wp_seq ?_
  refine flowC mixed (s2.keep (sc 0 rfl (sc 2 rfl (sc 6 rfl (sc 7 rfl sn))))) (by kernel_rfl) (by kernel_rfl) (cc rfl (p_move g0 (od rfl id))
      (cc rfl (p_bin g0 (od rfl id) (oc _) b_eqP)
      (cc rfl (p_move g0 (od rfl id))
      (cc rfl (p_dead (g1 rfl rfl) (y := .any) rfl)
      (cc rfl (p_dead (g1 rfl rfl) (y := .any) rfl)
      (cc rfl (p_dead (g1 rfl rfl) (y := .any) rfl)
      (cc rfl (p_dead (g1 rfl rfl) (y := .any) rfl)
      (cc rfl (p_dead (g1 rfl rfl) (y := .bool false) rfl)
      (cc rfl (p_or g0 (od rfl id) (od rfl id)) cn))))))))) fun a3 w3 b3 s3 => ?_
  have z3 := z2.below b3
  have hT := hT.below b3
  refine s3.cond 26 rfl (fun _ => ?_) (fun h => absurd h (by simp))
  refine wp_seq ?_
  refine flowT (s3.keep (sc 0 rfl (sc 2 rfl (sc 6 rfl (sc 7 rfl sn))))) (by kernel_rfl) (cc rfl (p_assign g0 (oc _)) cn) fun a4 w4 b4 s4 => ?_
  have z4 := z3.below b4
  have hT := hT.below b4
  exact wp_ret (ret_o (fn := Try.f19) (R := fun v w' => v = .slice none 0 0 ∧ Below w.heap.size w w') (v := .slice none 0 0) s4 6 rfl rfl ⟨rfl, z4.to_below (fun _ _ h => h) (Nat.le_refl _)⟩)
set_option maxRecDepth 100000 in
/-- Not a container: no threads. -/
theorem cThr1 {w : World} {B gT gM : Nat} {t : Tab} {kv : Nat → Value} (hT : TabAt w B gT gM t kv) {n on : Int} {gh : Nat} {q : TO} (hgl : t.tm.lookup n = some gh) (ho : t.ob gh = some q) (hk1 : q.kind ≠ 1) : Calls Try.prog 19 #[ptrV gT, .int .u64 n, .int .i64 on] w fun e w' => ∃ v, e = .returned v ∧ v = .slice none 0 0 ∧ Below w.heap.size w w' := by
  have z0 : OnlyB (fun _ => False) w w := OnlyB.refl _ _
  go_enter Try.func19, Try.ntmps19
  refine wp_seq ?_
  refine flowC mixed (st0 (U := False) (N := 64) (e := [(0, true, .val (ptrV gT)), (1, true, .val (.int .u64 n)), (2, true, .val (.int .i64 on))]) (F := noF) rfl rfl (fok_no _ _) ⟨⟨rfl, rfl⟩, ⟨⟨rfl, rfl⟩, ⟨⟨rfl, rfl⟩, True.intro⟩⟩⟩) (by kernel_rfl) (by kernel_rfl) (cc rfl (p_assign g0 (oc _)) cn) fun a1 w1 b1 s1 => ?_
  have z1 := z0.below b1
  have hT := hT.below b1
  refine wp_seq ?_
  have s1 := s1.more 0 (y := .tab gT gM 104 t.vals) (at_tab hT (s1.get 0 rfl))
  refine flowC mixed (s1.keep (sc 0 rfl (sc 1 rfl (sc 2 rfl (sc 6 rfl sn))))) (by kernel_rfl) (by kernel_rfl) (cc rfl (p_move g0 (od rfl id))
      (cc rfl (p_nilT g0 (od rfl id))
      (cc rfl (p_faT fa_104_0 g0 (od rfl id))
      (cc rfl (p_ldT ld_102 g0 (od rfl id))
      (cc rfl (p_move g0 (od rfl id))
      (cc rfl (p_lookO Try.underlying102 Try.underlying28 zero27 (tab_look _ _) g0 (od rfl id) (od rfl id))
      (cc rfl (p_assign g0 (od rfl id)) cn))))))) fun a2 w2 b2 s2 => ?_
  have z2 := z1.below b2
  have hT := hT.below b2
  rw [hgl] at s2
  have s2 := s2.more 7 (y := .bp gh 48 (toC q (kv gh)) 0) (at_obj (hT.ob _ _ ho).blk (s2.get 7 rfl))
  have s2 := s2.more 0 (y := .val (ptrV gT)) (s2.get 0 rfl).1
  refine wp_seq ?_
  refine wp_seq ?_
  refine flowC mixed (s2.keep (sc 0 rfl (sc 2 rfl (sc 6 rfl (sc 7 rfl sn))))) (by kernel_rfl) (by kernel_rfl) (cc rfl (p_move g0 (od rfl id))
      (cc rfl (p_eqB g0 (od rfl id))
      (cc rfl (p_move g0 (od rfl id))
      (cc rfl (p_move (g1 rfl rfl) (od rfl (fun _ => rfl)))
      (cc rfl (p_nilB (g1 rfl rfl) (od rfl id))
      (cc rfl (p_faB fa_48_2 (g1 rfl rfl) (od rfl id))
      (cc rfl (p_ldB ld_3 rfl (g1 rfl rfl) (od rfl id))
      (cc rfl (p_bin (g1 rfl rfl) (od rfl id) (oc _) b_neq_3)
      (cc rfl (p_or g0 (od rfl id) (od rfl id)) cn))))))))) fun a3 w3 b3 s3 => ?_
  have z3 := z2.below b3
  have hT := hT.below b3
  refine s3.cond 26 rfl (fun _ => ?_) (fun h => absurd h (by simp [hk1]))
  refine wp_seq ?_
  refine flowT (s3.keep (sc 0 rfl (sc 2 rfl (sc 6 rfl (sc 7 rfl sn))))) (by kernel_rfl) (cc rfl (p_assign g0 (oc _)) cn) fun a4 w4 b4 s4 => ?_
  have z4 := z3.below b4
  have hT := hT.below b4
  exact wp_ret (ret_o (fn := Try.f19) (R := fun v w' => v = .slice none 0 0 ∧ Below w.heap.size w w') (v := .slice none 0 0) s4 6 rfl rfl ⟨rfl, z4.to_below (fun _ _ h => h) (Nat.le_refl _)⟩)

end Go.Proofs.Ytbeeiecbbmiojaa.Y
