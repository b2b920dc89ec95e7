/- ConfigBytes: bytes with one of them changed tell no configuration, or one that may be, and just that one (second form: where what comes in is of bulk at most 1048576) -/
import Derived.Test.YtihddficgpjgpaaZYfr
import Derived.Test.YtihddficgpjgpaaZYat
import Derived.Test.YtihddficgpjgpaaZHead
namespace Go.Proofs.Ytihddficgpjgpaa.Y
open Go.RowKit Go.ChangeShapes Go.WideShapes Go.ChangeAt
theorem sz_5 : (Try.prog.info? 5).map (·.size) = some 1 := by kernel_rfl
theorem StE.tight {N : Nat} {e : Env} {a : Act} {w : World} (h : StE False N e noF a w) : StE True N e noF a w := ⟨h.size, h.defers, fok_none True w, h.known⟩
theorem byE_map : ∀ l : List Int, l.flatMap byE = l.map (Value.int .u8)
  | [] => rfl
  | x :: t => by rw [List.flatMap_cons, byE_map t]; rfl
theorem own_set {w w' : World} {B k g cap : Nat} {l : List Int} {x : Int} {v : Value} {cur : Array Value} (ho : w.ownsRow B 5 1 v l.length (l.flatMap byE)) (hv : v = .slice (some ⟨g, 0, none⟩) l.length cap) (hB : Blk w g 5 cur) (h2 : Blk w' g 5 (cur.setIfInBounds k (.int .u8 x))) (hk : k < l.length) : w'.ownsRow B 5 1 v (l.set k x).length ((l.set k x).flatMap byE) := by
  refine ⟨by rw [byE_map, List.length_map]; omega, ?_⟩
  rcases ho.2 with ⟨_, h0⟩ | ⟨g', cap', cur', e, hBg, hb, hnc, hcm, hcs, ht⟩
  · omega
  · rw [hv] at e
    injection e with e1 e2 e3
    injection e1 with e1
    injection e1 with e1
    subst e1 e3
    have hc : cur' = cur := by
      unfold Blk at hB
      rw [hB] at hb
      injection hb with hb
      injection hb with hb
      exact hb.symm
    subst hc
    refine .inr ⟨g, cap, _, by rw [List.length_set]; exact hv, hBg, h2, by rw [List.length_set]; exact hnc, hcm, by rw [Array.size_setIfInBounds]; exact hcs, ?_⟩
    rw [Array.toList_setIfInBounds, List.take_set, List.length_set, ht, byE_map, byE_map, List.map_set]
theorem idx_of {n : Nat} (q : Int) (h : 0 < n) (hn : n ≤ 1000000) : ∃ k : Nat, k < n ∧ (IntKind.i64.wrap (q.tmod n + n)).tmod n = (k : Int) := by
  have h3 : (0 : Int) < n := by omega
  have h4 := Int.tmod_lt_of_pos q h3
  have h5 : -(n : Int) < q.tmod n := Int.lt_tmod_of_pos q h3
  have e : IntKind.i64.wrap (q.tmod n + n) = q.tmod n + n := by rw [IntKind.wrap_i64]; omega
  rw [e]
  have h6 : 0 ≤ (q.tmod n + n).tmod n := Int.tmod_nonneg _ (by omega)
  have h7 := Int.tmod_lt_of_pos (q.tmod n + n) h3
  exact ⟨((q.tmod n + n).tmod n).toNat, by omega, by omega⟩
theorem byt_set {l : List Int} {k : Nat} {x : Int} (h : Pk.Byt l) (hx : 0 ≤ x ∧ x < 256) : Pk.Byt (l.set k x) := fun y hy => by
  rcases List.mem_or_eq_of_mem_set hy with h1 | h1
  · exact h y h1
  · rw [h1]; exact hx
theorem map5_sg {bs : List Int} (hB : Pk.Byt bs) (s : Nat × Bool) : 0 ≤ (mapR5 bs s).1.sg := by
  rw [map_read]
  exact (nx2 hB _).1
theorem bdR_sg {bs : List Int} (hB : Pk.Byt bs) (k : Int) (s : Nat × Bool) : ∀ m ∈ (bdR k bs s).1.2.2.2.2.1, 0 ≤ m.sg := by
  by_cases k1 : k = 1
  · rw [bd_1 k1]; exact fun _ h => by cases h
  by_cases k2 : k = 2
  · rw [bd_2 k2]; exact fun _ h => by cases h
  by_cases k4 : k = 4
  · rw [bd_4 k4]
    show ∀ m ∈ (manyR mapR5 (nx bs s 1).1.toNat bs (nx bs s 1).2).1, 0 ≤ m.sg
    exact many_all fun s => map5_sg hB s
  by_cases k3 : k = 3 ∨ k = 5
  · rw [bd_3 k3]; exact fun _ h => by cases h
  by_cases k6 : k = 6
  · rw [bd_6 k6]; exact fun _ h => by cases h
  · rw [bd_0 k1 k2 k4 k3 k6]; exact fun _ h => by cases h
theorem obR_sg {bs : List Int} (hB : Pk.Byt bs) (s : Nat × Bool) : ∀ m ∈ (obR bs s).1.mps, 0 ≤ m.sg := by
  rw [ob_read]
  exact bdR_sg hB _ _
/-- The objects of what is read. -/
theorem dec_obs {bs : List Int} {p : Ob → Prop} (hp : ∀ s, p (obR bs s).1) : ∀ o ∈ (decV bs).1.obs, p o := by
  unfold decV
  split
  · exact fun _ h => by cases h
  · have : ∃ n s, (cfR bs (0, false)).1.obs = (manyR obR n bs s).1 := ⟨_, _, rfl⟩
    obtain ⟨n, s, e⟩ := this
    show ∀ o ∈ (cfR bs (0, false)).1.obs, p o
    rw [e]
    exact many_all hp
theorem u8_of {x : Int} (h : (Lit.int .u8 x).wf = true) : 0 ≤ x ∧ x < 256 := by
  simp [Lit.wf, IntKind.min, IntKind.max, IntKind.signed, IntKind.bits] at h
  omega
set_option maxRecDepth 100000 in
theorem configBytes_walk (w : World) (v0 v1 v2 : Value) {c : Cf} {q x : Int} (h0 : (.st plL c : Sym).on w noF v0) (h1 : (.int .i64 q : Sym).on w noF v1) (h2 : (.int .u8 x : Sym).on w noF v2) (hC : okCB 1048576 c) (hx0 : (Lit.int .u8 x).wf = true): Calls Try.prog 27 #[v0, v1, v2] w fun e w' => e = .returned (.bool true) ∧ Below w.heap.size w w' := by
  go_enter Try.func27, Try.ntmps27
  refine wp_seq ?_
  refine flowC mixed (st0 (U := True) (N := 67) (e := [(0, true, .st plL c), (1, true, .int .i64 q), (2, true, .int .u8 x)]) (F := noF) rfl rfl (fok_none True w) ⟨⟨rfl, h0⟩, ⟨⟨rfl, h1⟩, ⟨⟨rfl, h2⟩, True.intro⟩⟩⟩) (by kernel_rfl) (by kernel_rfl) (cc rfl (p_box bx_56 g0 (od rfl id))
      (cc rfl (p_assign g0 (oc _)) cn)) fun a1 w1 b1 s1 => ?_
  have z1 := b1
  refine wp_seq ?_
  refine wp_seq ?_
  refine flowC mixed (s1.keep (sc 1 rfl (sc 2 rfl (sc 3 rfl (sc 6 rfl sn))))) (by kernel_rfl) (by kernel_rfl) (cc rfl (p_call 43 g0 ox0 (fun _ _ => by kernel_rfl) f43)
      (cc rfl (p_not g0 (od rfl id)) cn)) fun a2 w2 b2 s2 => ?_
  have z2 := z1.trans (b2.mono z1.size)
  refine s2.cond 11 rfl (fun h => absurd h (by decide)) fun _ => ?_
  refine wp_skip ?_
  refine wp_seq ?_
  refine wp_seq ?_
  by_cases hL : lightB c = true
  · -- light
    obtain ⟨hn1, hn2, hob, hsg⟩ := plan_facts hC hL
    refine flowC mixed (s2.keep (sc 1 rfl (sc 2 rfl (sc 3 rfl (sc 6 rfl sn))))) (by kernel_rfl) (by kernel_rfl) (cc rfl (p_load Try.underlying56 rfl sz_56 g0 (od rfl id))
        (cc rfl (p_call 44 g0 (ox (od rfl id) ox0) (fun _ _ => by kernel_rfl) (f44 (few_of hC)))
        (cc rfl (p_not g0 (od rfl id))
        (cc rfl (p_move g0 (od rfl id))
        (cc rfl (p_load Try.underlying56 rfl sz_56 (g1 rfl rfl) (od rfl (fun _ => rfl)))
        (cc rfl (p_call 45 (g1 rfl rfl) (ox (od rfl id) ox0) (fun _ _ => by kernel_rfl) (f45 hL))
        (cc rfl (p_call 47 (g1 rfl rfl) (ox (od rfl id) ox0) (fun _ _ => by kernel_rfl) (f47 (by omega) (by omega) (fun o ho => by have := (hob o ho).1; unfold maxLen; omega)))
        (cc rfl (p_not (g1 rfl rfl) (od rfl id))
        (cc rfl (p_or g0 (od rfl id) (od rfl id)) cn))))))))) fun a3 w3 b3 s3 => ?_
    have z3 := z2.trans (b3.mono z2.size)
    refine s3.cond 20 rfl (fun h20 => ?_) (fun h20 => ?_)
    · -- true
      refine wp_seq ?_
      refine flowT (s3.keep (sc 1 rfl (sc 2 rfl (sc 3 rfl (sc 6 rfl sn))))) (by kernel_rfl) (cc rfl (p_assign g0 (oc _)) cn) fun a4 w4 b4 s4 => ?_
      have z4 := z3.trans (b4.mono z3.size)
      exact wp_ret (ret_law (fn := Try.f27) s4 6 rfl rfl rfl z4)
    · -- false
      have hr : rightC (planC c) = true := by rw [right_same hsg]; rw [hL] at h20; simpa using h20
      have hT := tell_plan hC hL hr
      have hlb := cf_len hT hr
      have hby := cfB_byt hT
      have hge := cfB_ge (planC c)
      refine wp_skip ?_
      refine wp_seq ?_
      refine wp_region_lit ?_
      refine chainK 2 (cc rfl (p_load Try.underlying56 rfl sz_56 g0 (od rfl id))
          (cc rfl (p_call 45 g0 (ox (od rfl id) ox0) (fun _ _ => by kernel_rfl) (f45 hL)) cn)) (by kernel_rfl) (s3.keep (sc 1 rfl (sc 2 rfl (sc 3 rfl (sc 6 rfl sn))))) fun a5 w5 b5 s5 => ?_
      have z5 := z3.trans (b5.mono z3.size)
      have s5 := s5.more 22 (y := .both (.past w.heap.size) (.st cfL (planC c))) ⟨z5.size, s5.get 22 rfl⟩
      refine chainT (t := []) (cc rfl (p_call 95 g0 (ox (od rfl id) ox0) (fun _ _ => by kernel_rfl) (f95f (B := w.heap.size) hT hlb))
          (cc rfl (p_assign g0 (od rfl id)) cn)) (by kernel_rfl) s5 fun a6 w6 b6 s6 => wpList_done ?_
      have z6 := z5.trans (b6.mono z5.size)
      have s6 := s6.loose
      obtain ⟨v7, e7⟩ : ∃ v, a6.tmps.getD 7 undef = v := ⟨_, rfl⟩
      have h7 := s6.get 7 rfl
      rw [e7] at h7
      have gr7 : Grows byL byE w.heap.size 5 noF w6 v7 (cfB (planC c)) := ⟨h7.1.2.1, h7.1.2.2⟩
      have s6 := s6.more 7 (y := .both (.val v7) (.by (cfB (planC c)))) ⟨e7, by rw [e7]; exact h7.2⟩
      refine wp_seq ?_
      obtain ⟨k, hk, ek⟩ := idx_of (n := (cfB (planC c)).length) q (by omega) (by omega)
      have hx := u8_of hx0
      have hby2 : Pk.Byt ((cfB (planC c)).set k x) := byt_set hby hx
      refine wp_region_lit ?_
      refine chainK 12 (cc rfl (p_move g0 (od rfl id))
          (cc rfl (p_move g0 (od rfl id))
          (cc rfl (p_move g0 (od rfl id))
          (cc rfl (p_len ln_22 g0 (od2 rfl id))
          (cc rfl (p_bin g0 (od rfl id) (od rfl id) (b_rem_3 (by omega)))
          (cc rfl (p_move g0 (od rfl id))
          (cc rfl (p_len ln_22 g0 (od2 rfl id))
          (cc rfl (p_bin g0 (od rfl id) (od rfl id) b_add_3)
          (cc rfl (p_move g0 (od rfl id))
          (cc rfl (p_len ln_22 g0 (od2 rfl id))
          (cc rfl (p_bin g0 (od rfl id) (od rfl id) (b_rem_3 (by omega)))
          (cc rfl (p_move g0 (od rfl id)) cn)))))))))))) (by kernel_rfl) (s6.keep (sc 1 rfl (sc 2 rfl (sc 7 rfl sn)))) fun a7 w7 b7 s7 => ?_
      have z7 := z6.trans (b7.mono z6.size)
      have gr7 := gr7.below b7
      have s7 := s7.more 34 (y := .int .i64 (k : Int)) (int_as (s7.get 34 rfl) ek)
      rcases gr7.own.2 with ⟨_, h0⟩ | ⟨g, cap, cur, e, hBg, hblk, hnc, hcm, hcs, ht⟩
      · omega
      have hblk : Blk w7 g 5 cur := hblk
      have hcs : cur.size = cap * 1 := hcs
      show wpList _ _ _ (_ :: _) _ _
      refine pure_on (v := .pointer (some ⟨g, 0 + k * 1, none⟩)) s7 (by simp [Region.wanted]) rfl (by decide) (ix_22 _ _ g 0 (cfB (planC c)).length cap k (by rw [← e]; exact (s7.get 24 rfl).1) (s7.get 34 rfl) hk) fun a8 s8 => ?_
      have s8 := s8.more 7 (y := .val v7) (s8.get 7 rfl).1
      show wpList _ _ _ (_ :: _) _ _
      refine cell_F (F' := noF) s8 rfl rfl rfl (od rfl id) (od rfl id) hblk (by omega) rfl sz_5 rfl (vv 7 rfl vn) (fun _ _ _ => fok_none _ _) fun a9 w9 hB2 G s9 => ?_
      have hB2 : Blk w9 g 5 (cur.setIfInBounds k (.int .u8 x)) := by have h := hB2; rwa [show 0 + k * 1 = k by omega] at h
      have hrow := own_set gr7.own e hblk hB2 hk
      have z9 := z7.grown G z7.size (fun k e => by cases e; exact hBg)
      have s9 := s9.more 7 (y := .by ((cfB (planC c)).set k x)) (by rw [show _ = v7 from s9.get 7 rfl]; exact sl_of_own byF hrow (F := noF) fun _ _ _ _ h => h)
      refine wpList_done ?_
      refine wp_seq ?_
      refine wp_region_lit ?_
      refine chainK 5 (cc rfl (p_move g0 (od rfl id))
          (cc rfl (p_call 96 g0 (ox (od rfl id) ox0) (fun _ _ => by kernel_rfl) (f96 (bs := ((cfB (planC c)).set k x)) hby2 (by rw [List.length_set]; omega)))
          (cc rfl (p_move g0 (od rfl id))
          (cc rfl (p_ext0 g0 (od rfl id))
          (cc rfl (p_ext1 g0 (od rfl id)) cn))))) (by kernel_rfl) (s9.keep (sc 7 rfl sn)) fun a10 w10 b10 s10 => ?_
      have z10 := z9.trans (b10.mono z9.size)
      show wpList _ _ _ (_ :: _) _ _
      refine alloc_U (u := 59) (z := #[.int .i64 0, .int .i64 0, .int .i64 0, .slice none 0 0, .slice none 0 0]) s10 (fun u => u.elim) rfl (by decide) rfl (fun ev w => al_59 ev w) fun g8 a11 w11 k8 hg8 b11 s11 => ?_
      have hw8 := Nat.le_trans z10.size hg8
      have z11 := z10.trans (b11.mono z10.size)
      show wpList _ _ _ (_ :: _) _ _
      refine store_U (L := cfL) 8 40 s11 rfl rfl rfl rfl rfl k8 rfl sz_59 (fun _ => .inr rfl) (fun u => u.elim) fun cs8 a12 w12 k8 _ hL8 G8 s12 => ?_
      have z12 := z11.grown G8 z11.size (fun k e => by cases e; exact hw8)
      have s12 := s12.less (F' := noF) (fun _ h => h.elim)
      have s12 := s12.more 8 (y := .at cfL (decV ((cfB (planC c)).set k x)).1) (at_blk2 k8 hL8 (s12.get 8 rfl))
      refine chainT (t := []) (cc rfl (p_assign g0 (od rfl id)) cn) (by kernel_rfl) s12 fun a13 w13 b13 s13 => wpList_done ?_
      have z13 := z12.trans (b13.mono z12.size)
      refine wp_seq ?_
      refine wp_seq ?_
      by_cases hd : (decV ((cfB (planC c)).set k x)).2 = 10
      · -- no configuration
        have s13 := s13.more 9 (y := .int .i64 10) (int_as (s13.get 9 rfl) hd)
        have s13 := s13.more 8 (y := .at cfL cfZ) (by have q := s13.get 8 (y := .at cfL (decV ((cfB (planC c)).set k x)).1) rfl; rwa [dec_bad hd] at q)
        refine flowC mixed (s13.keep (sc 7 rfl (sc 8 rfl (sc 9 rfl sn)))) (by kernel_rfl) (by kernel_rfl) (cc rfl (p_move g0 (od rfl id))
            (cc rfl (p_bin g0 (od rfl id) (oc _) b_neq_47) cn)) fun a14 w14 b14 s14 => ?_
        have z14 := z13.trans (b14.mono z13.size)
        refine s14.cond 43 rfl (fun _ => ?_) (fun h => absurd h (by decide))
        refine wp_seq ?_
        refine flowC mixed (s14.keep (sc 7 rfl (sc 8 rfl (sc 9 rfl sn)))) (by kernel_rfl) (by kernel_rfl) (cc rfl (p_move g0 (od rfl id))
            (cc rfl (p_bin g0 (od rfl id) (oc _) b_eql_47)
            (cc rfl (p_move g0 (od rfl id))
            (cc rfl (p_fieldAddr pt59_4 fa_59_4 (g1 rfl rfl) (od rfl (fun _ => rfl)))
            (cc rfl (p_load1 rfl ld_57 (g1 rfl rfl) (od rfl id))
            (cc rfl (p_len ln_57 (g1 rfl rfl) (od rfl id))
            (cc rfl (p_bin (g1 rfl rfl) (od rfl id) (oc _) b_eql_3)
            (cc rfl (p_and g0 (od rfl id) (od rfl id))
            (cc rfl (p_move g0 (od rfl id))
            (cc rfl (p_fieldAddr pt59_0 fa_59_0 (g1 rfl rfl) (od rfl (fun _ => rfl)))
            (cc rfl (p_loadI ld_3 (g1 rfl rfl) (od rfl id))
            (cc rfl (p_bin (g1 rfl rfl) (od rfl id) (oc _) b_eql_3)
            (cc rfl (p_and g0 (od rfl id) (od rfl id))
            (cc rfl (p_assign g0 (od rfl id)) cn)))))))))))))) fun a15 w15 b15 s15 => ?_
        have z15 := z14.trans (b15.mono z14.size)
        have s15 := s15.more 6 (y := .bool true) (bool_as (s15.get 6 rfl) (by simp))
        exact wp_ret (ret_law (fn := Try.f27) s15 6 rfl rfl rfl z15)
      · -- a configuration
        obtain ⟨hd0, hr2, hT2, hcf2⟩ := dec_tell hby2 hd
        have hsg2 : ∀ o ∈ (decV _).1.obs, ∀ m ∈ o.mps, 0 ≤ m.sg := dec_obs fun s => obR_sg hby2 s
        have hmp2 : ∀ o ∈ (decV _).1.obs, o.mps.length ≤ maxLen := dec_obs fun s => Nat.le_trans (obR_mps hby2 s) (by unfold maxLen; omega)
        have s13 := s13.more 9 (y := .int .i64 0) (int_as (s13.get 9 rfl) hd0)
        have s13 := s13.tight
        have hn3 := hT2.sn.2
        have hn4 := hT2.on.2
        refine flowC mixed (s13.keep (sc 7 rfl (sc 8 rfl (sc 9 rfl sn)))) (by kernel_rfl) (by kernel_rfl) (cc rfl (p_move g0 (od rfl id))
            (cc rfl (p_bin g0 (od rfl id) (oc _) b_neq_47) cn)) fun a16 w16 b16 s16 => ?_
        have z16 := z13.trans (b16.mono z13.size)
        refine s16.cond 43 rfl (fun h => absurd h (by decide)) fun _ => ?_
        refine wp_skip ?_
        refine wp_seq ?_
        refine flowC mixed (s16.keep (sc 7 rfl (sc 8 rfl sn))) (by kernel_rfl) (by kernel_rfl) (cc rfl (p_load u_59 ur_59 sz_59 g0 (od rfl id))
            (cc rfl (p_call 47 g0 (ox (od rfl id) ox0) (fun _ _ => by kernel_rfl) (f47 (by omega) (by omega) hmp2))
            (cc rfl (p_move g0 (od rfl id))
            (cc rfl (p_load u_59 ur_59 sz_59 (g1 rfl rfl) (od rfl (fun _ => rfl)))
            (cc rfl (p_call 95 (g1 rfl rfl) (ox (od rfl id) ox0) (fun _ _ => by kernel_rfl) (f95 hT2 (cf_len hT2 hr2)))
            (cc rfl (p_str (g1 rfl rfl) (od rfl id))
            (cc rfl (p_move (g1 rfl rfl) (od rfl (fun _ => rfl)))
            (cc rfl (p_str (g1 rfl rfl) (od rfl id))
            (cc rfl (p_bin (g1 rfl rfl) (od rfl id) (od rfl id) (b_eql_9 (cfB_byt hT2) hby2))
            (cc rfl (p_and g0 (od rfl id) (od rfl id))
            (cc rfl (p_assign g0 (od rfl id)) cn))))))))))) fun a17 w17 b17 s17 => ?_
        have z17 := z16.trans (b17.mono z16.size)
        have s17 := s17.more 6 (y := .bool true) (bool_as (s17.get 6 rfl) (by rw [← right_same hsg2, hr2, hcf2]; simp))
        exact wp_ret (ret_law (fn := Try.f27) s17 6 rfl rfl rfl z17)
  · -- not light
    have hL : lightB c = false := by simpa using hL
    refine flowC mixed (s2.keep (sc 1 rfl (sc 2 rfl (sc 3 rfl (sc 6 rfl sn))))) (by kernel_rfl) (by kernel_rfl) (cc rfl (p_load Try.underlying56 rfl sz_56 g0 (od rfl id))
        (cc rfl (p_call 44 g0 (ox (od rfl id) ox0) (fun _ _ => by kernel_rfl) (f44 (few_of hC)))
        (cc rfl (p_not g0 (od rfl id))
        (cc rfl (p_move g0 (od rfl id))
        (cc rfl (p_dead (y := .any) (g1 rfl rfl) (by simp [hL]))
        (cc rfl (p_dead (y := .any) (g1 rfl rfl) (by simp [hL]))
        (cc rfl (p_dead (y := .any) (g1 rfl rfl) (by simp [hL]))
        (cc rfl (p_dead (y := .bool false) (g1 rfl rfl) (by simp [hL]))
        (cc rfl (p_or g0 (od rfl id) (od rfl id)) cn))))))))) fun a18 w18 b18 s18 => ?_
    have z18 := z2.trans (b18.mono z2.size)
    refine s18.cond 20 rfl (fun _ => ?_) (fun h => absurd h (by simp [hL]))
    refine wp_seq ?_
    refine flowT (s18.keep (sc 1 rfl (sc 2 rfl (sc 3 rfl (sc 6 rfl sn))))) (by kernel_rfl) (cc rfl (p_assign g0 (oc _)) cn) fun a19 w19 b19 s19 => ?_
    have z19 := z18.trans (b19.mono z18.size)
    exact wp_ret (ret_law (fn := Try.f27) s19 6 rfl rfl rfl z19)
set_option maxRecDepth 100000 in
theorem configBytes_lifted (os : Os) (started : os.Started) (H : Type) (enc : TypeId × Value → H) (Fi : Stop.Interp) :
    ReturnsInHanded {} Try.checked os 27 .any ((Rows.OpenSpec.upto Rows.configBytesSpec).pre6 enc Try.prog Try.f27 Rows.configBytesUptoRow.domain false) (((Rows.OpenSpec.upto Rows.configBytesSpec).at Fi).post enc Try.prog Try.f27 false true false false) := by
  refine liftedU_of (C := Try.checked) laidOut own started (by kernel_rfl) Try.func27 rfl Try.underlying4 (by kernel_rfl) rfl
    (fun ds hds => by match ds, hds with | [_, _, _], _ => rfl)
    (OpenSpec.witness (enc := enc) (C := Try.checked) (s := Rows.OpenSpec.upto Rows.configBytesSpec) (k := Rows.uptoSmall) rfl false ⟨#[], #[.agg #[.int .i64 0, .int .i64 0, .int .i64 0, .slice none 0 0, .slice none 0 0], .int .i64 0, .int .u8 0], []⟩ 8 (by kernel_rfl) (by kernel_rfl) (by kernel_rfl)
      (x := ([.agg [.lit (.int .i64 0), .lit (.int .i64 0), .lit (.int .i64 0), .nil, .nil], .lit (.int .i64 0), .lit (.int .u8 0)], [], [])) (by kernel_rfl) rfl (by kernel_rfl)) ?_
  intro w base args ds ps hval0 hA0 hlt hB
  have hval : ∀ (j : Nat) t v, Try.f27.params[j]? = some t → args[j]? = some v → Value.okWide Try.prog w .any base t v := hval0
  have hA : DataW.TrodAll enc Try.prog w 0 (fun _ => true) true Try.f27.params.toList args.toList ds ps := hA0
  rw [Try.params27] at hA hval
  obtain ⟨v0, vs0, d0, ds0, p0, q0, hargs, rfl, rfl, h0, r0⟩ := trodAll_cons hA
  obtain ⟨v1, vs1, d1, ds1, p1, q1, rfl, rfl, rfl, h1, r1⟩ := trodAll_cons r0
  obtain ⟨v2, vs2, d2, ds2, p2, q2, rfl, rfl, rfl, h2, r2⟩ := trodAll_cons r1
  obtain ⟨rfl, rfl, rfl⟩ := trodAll_nil r2
  obtain rfl : args = #[v0, v1, v2] := by cases args; simp_all
  obtain ⟨x0, o0, s0⟩ := openB_st Try.underlying56 rfl opensB_plan (hval 0 56 v0 rfl rfl) h0 (fun x hx => hlt x (List.mem_append_left _ hx)) (Nat.le_trans (bulk_part (by simp)) hB)
  obtain ⟨x1, rfl, rfl, rfl, o1⟩ := open_int Try.underlying3 (hval 1 3 v1 rfl rfl) h1
  obtain ⟨x2, rfl, rfl, rfl, o2⟩ := open_int Try.underlying5 (hval 2 5 v2 rfl rfl) h2
  exact configBytes_walk w _ _ _ s0 rfl rfl o0 o2
set_option maxRecDepth 100000 in
theorem configBytes_facts : joinedFacts Try.pinned.checked.prog 27 Try.f27 (Rows.OpenSpec.upto Rows.configBytesSpec).bare Rows.configBytesUptoRow = true := by
  show joinedFacts Try.prog 27 Try.f27 (Rows.OpenSpec.upto Rows.configBytesSpec).bare Rows.configBytesUptoRow = true
  unfold joinedFacts
  rw [mayEnter_ok, liftsFinal_ok, make_ok]
  kernel_rfl
theorem configBytes_holds : Rows.ConfigBytesUptoSaid :=
  OpenClaim.holds_of_cond 27 Try.f27 rfl rfl rfl rfl rfl rfl rfl ⟨rfl, rfl, rfl, rfl, rfl⟩ rfl rfl rfl rfl rfl (by kernel_rfl) Try.func27 configBytes_facts
    (of_decide_eq_true (by kernel_rfl)) (by unfold Func.isWrapper; rw [if_neg (of_decide_eq_false (by kernel_rfl))]; exact ⟨rfl, rfl⟩)
    (fun os started H enc _ Fi => configBytes_lifted os started H enc Fi)
#print axioms configBytes_holds
end Go.Proofs.Ytihddficgpjgpaa.Y
