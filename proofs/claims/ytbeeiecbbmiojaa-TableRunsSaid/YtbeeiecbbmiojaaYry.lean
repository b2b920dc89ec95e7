/- Yry: same: the table has just what is noted -/
import Derived.Test.YtbeeiecbbmiojaaYrx
namespace Go.Proofs.Ytbeeiecbbmiojaa.Y
open Go.RowKit Go.ChangeShapes Go.WideShapes Go.ChangeAt Go.ChangeMaps Go.MapKept

theorem onlyN {n0 : Nat} {A C : World} (hb : Below n0 A C) : OnlyB (fun i => n0 ≤ i) A C := ⟨hb.os, hb.tape, hb.output, hb.size, fun i _ hn => hb.block i (by omega)⟩
/-- What stands while a table is compared with what is noted. -/
def SameI (w : World) (B Bu gT gM gm g4 g5 g6 g7 g8 : Nat) (t : Tab) (kv : Nat → Value) (mm : Noted) (v : Value) (ns : List Int) (pre : List Nat) (W : World) : Prop :=
  ∃ (k : Nat) (last : Int), pre = (ns.map (lookG t)).take k ∧ k ≤ ns.length ∧ (∀ x ∈ ns.drop k, last < x) ∧ Blk W g7 28 #[.int .u64 last] ∧ Blk W g8 3 #[.int .i64 (k : Int)] ∧ TabAt W B gT gM t kv ∧ MapAt W gm .u64 (mV mm) ∧ Blk W g4 92 #[.map (some gm)] ∧ Blk W g5 29 #[v] ∧ Blk W g6 4 #[.bool false] ∧ W.ownsRow Bu 28 1 v (nms mm).length ((nms mm).flatMap kE) ∧ OnlyB (fun _ => False) w W
theorem SameI.below {w : World} {B Bu gT gM gm g4 g5 g6 g7 g8 : Nat} {t : Tab} {kv : Nat → Value} {mm : Noted} {v : Value} {ns : List Int} {pre : List Nat} {n0 : Nat} {A C : World} (h : SameI w B Bu gT gM gm g4 g5 g6 g7 g8 t kv mm v ns pre A) (hb : Below n0 A C) (h3 : ∀ i, TabB gT gM t kv i → i < n0) (hm : gm < n0) (h4 : g4 < n0) (h5 : g5 < n0) (h6 : g6 < n0) (h7 : g7 < n0) (h8 : g8 < n0) (hv : ∀ q, v.ownBlock = some q → q < n0) (hw : w.heap.size ≤ n0) : SameI w B Bu gT gM gm g4 g5 g6 g7 g8 t kv mm v ns pre C := by
  obtain ⟨k, last, a1, a2, a3, a4, a5, a6, a7, a8, a9, a10, a11, a12⟩ := h
  have ho := onlyN hb
  exact ⟨k, last, a1, a2, a3, (hb.block _ h7).trans a4, (hb.block _ h8).trans a5, a6.only ho (fun i hi hn => by have := h3 i hi; omega), a7.only ho (by omega), (hb.block _ h4).trans a8, (hb.block _ h5).trans a9, (hb.block _ h6).trans a10, own_only a11 ho (fun g hg hn => by have := hv g hg; omega), ⟨hb.os.trans a12.os, hb.tape.trans a12.tape, hb.output.trans a12.output, Nat.le_trans a12.size hb.size, fun i hi hn => (hb.block i (by omega)).trans (a12.block i hi hn)⟩⟩
theorem fLen {U : Prop} {gT gM : Nat} {t : Tab} : Fn U Try.prog 18 [.tab gT gM 104 t.vals] (.int .i64 (t.tm.length : Int)) := fn1 fun w F v1 h1 hF => by
  obtain ⟨rfl, hB, hM, _⟩ := h1
  have hT : TabAt w 0 gT gM ⟨t.tm, fun _ => none⟩ (fun _ => .slice none 0 0) := ⟨hB, hM, (fun _ _ h => by cases h), (fun _ _ _ _ h => by cases h), Nat.zero_le _, Nat.zero_le _, (fun _ _ h => by cases h)⟩
  refine (cLen hT).mono ?_
  rintro _ w' ⟨v, rfl, rfl, hb⟩
  exact ⟨_, rfl, rfl, hb⟩
theorem kid_next {mm : Noted} {j : Nat} {p : Int × CR} (ep : mm[j]? = some p) (x : Int) : kidsOf (mm.take (j + 1)) x = kidsOf (mm.take j) x ++ (if p.2.home = x then [p.1] else []) := by
  rw [List.take_add_one, ep]
  exact kids_app _ _ _
theorem kid_at {mm : Noted} {j : Nat} {p : Int × CR} (ep : mm[j]? = some p) {x : Int} (h : p.2.home = x) : (kidsOf mm x)[(kidsOf (mm.take j) x).length]? = some p.1 ∧ (kidsOf (mm.take j) x).length < (kidsOf mm x).length := by
  have e : kidsOf mm x = kidsOf (mm.take j) x ++ p.1 :: kidsOf (mm.drop (j + 1)) x := by
    conv => lhs; rw [(mm_split ep).2]
    unfold kidsOf
    rw [List.filter_append, List.map_append, List.filter_cons, if_pos (by simpa using h), List.map_cons]
  rw [e]
  refine ⟨by rw [List.getElem?_append_right (Nat.le_refl _)]; simp, ?_⟩
  rw [List.length_append, List.length_cons]
  omega
theorem kid_len {mm : Noted} {x : Int} : (kidsOf mm x).length ≤ mm.length := by
  unfold kidsOf
  rw [List.length_map]
  exact List.length_filter_le _ _
set_option maxRecDepth 100000 in
set_option maxHeartbeats 3200000 in
/-- same: the table has just what is noted. -/
theorem cSame {w : World} {B Bu gT gM gm cp : Nat} {A : Option Addr} {t : Tab} {kv : Nat → Value} {mm : Noted} (hT : TabAt w B gT gM t kv) (hM : MapAt w gm .u64 (mV mm)) (hu : w.ownsRow Bu 28 1 (.slice A (nms mm).length cp) (nms mm).length ((nms mm).flatMap kE)) (hI : RInv t mm) : Calls Try.prog 35 #[ptrV gT, .map (some gm), .slice A (nms mm).length cp] w fun e w' => ∃ v, e = .returned v ∧ v = .bool true ∧ Below w.heap.size w w' := by
  obtain ⟨ns, hns, hrise⟩ := rise_ex (nms mm) hI.nd
  have hns' : ns.Perm (t.tm.map (·.1)) := by rw [hI.keys]; exact hns
  have hnl : ns.length = mm.length := by have := hns.length_eq; rwa [List.length_map] at this
  have h16 := hI.le16
  have hl16 : (nms mm).length ≤ 16 := by rw [List.length_map]; exact h16
  have hpos : ∀ x ∈ ns, 0 < x := fun x hx => by
    obtain ⟨p, hp, rfl⟩ := List.mem_map.1 (hns.mem_iff.1 hx)
    exact (hI.cr p hp).2.2.1
  have z0 : OnlyB (fun _ => False) w w := OnlyB.refl _ _
  refine calls_marks Try.func35 rfl ?_
  simp only [Try.ntmps35, List.size_toArray, List.length_cons, List.length_nil, Nat.reduceAdd, Nat.reduceSub, Array.replicate_succ, Array.replicate_zero, List.push_toArray, List.append_toArray, List.nil_append, List.cons_append]
  refine wp_seq ?_
  refine wp_region_lit ?_
  refine with_st (st0 (U := False) (N := 118) (e := [(0, true, .val (ptrV gT)), (1, true, .val (.map (some gm))), (2, true, .val (.slice A (nms mm).length cp))]) (F := noF) rfl rfl (fok_no _ _) ⟨⟨rfl, rfl⟩, ⟨⟨rfl, rfl⟩, ⟨⟨rfl, rfl⟩, True.intro⟩⟩⟩) fun s0 => ?_
  show wpList _ _ _ (_ :: _) _ _
  refine alloc_on (u := 92) (z := #[.map (some gm)]) s0 (by simp [Region.wanted]) rfl (by decide) (bx_92 _ _ (s0.get 1 rfl)) (vv 0 rfl (vv 2 rfl vn)) fun g4 a1 w1 hB4 hg4 b1 s1 => ?_
  have ng4 := hg4
  have hg4 := Nat.le_trans z0.size hg4
  have hT := hT.below b1
  have hM := hM.below b1
  have hu := own_below hu b1
  have z1 := z0.below b1
  show wpList _ _ _ (_ :: _) _ _
  refine alloc_on (u := 29) (z := #[.slice A (nms mm).length cp]) s1 (by simp [Region.wanted]) rfl (by decide) (bx_29 _ _ (s1.get 2 rfl)) (vv 0 rfl (vv 4 rfl vn)) fun g5 a2 w2 hB5 hg5 b2 s2 => ?_
  have ng5 := hg5
  have hg5 := Nat.le_trans z1.size hg5
  have hT := hT.below b2
  have hM := hM.below b2
  have hu := own_below hu b2
  have hB4 := hB4.below b2 hB4.lt
  have z2 := z1.below b2
  show wpList _ _ _ (_ :: _) _ _
  refine alloc_on (u := 4) (z := #[.bool false]) s2 (by simp [Region.wanted]) rfl (by decide) (al_4 _ _) (vv 0 rfl (vv 4 rfl (vv 5 rfl vn))) fun g6 a3 w3 hB6 hg6 b3 s3 => ?_
  have ng6 := hg6
  have hg6 := Nat.le_trans z2.size hg6
  have hT := hT.below b3
  have hM := hM.below b3
  have hu := own_below hu b3
  have hB4 := hB4.below b3 hB4.lt
  have hB5 := hB5.below b3 hB5.lt
  have z3 := z2.below b3
  refine wpList_done ?_
  refine wp_seq ?_
  refine wp_region_lit ?_
  refine with_st (s3.keep (sc 0 rfl (sc 4 rfl (sc 5 rfl (sc 6 rfl sn))))) fun s3 => ?_
  show wpList _ _ _ (_ :: _) _ _
  have hTo := hT
  have huo := hu
  refine alloc_on (u := 28) (z := #[.int .u64 0]) s3 (by simp [Region.wanted]) rfl (by decide) (al_28 _ _) (vv 0 rfl (vv 4 rfl (vv 5 rfl (vv 6 rfl vn)))) fun g7 a4 w4 hB7 hg7 b4 s4 => ?_
  have ng7 := hg7
  have hg7 := Nat.le_trans z3.size hg7
  have hT := hT.below b4
  have hM := hM.below b4
  have hu := own_below hu b4
  have hB4 := hB4.below b4 hB4.lt
  have hB5 := hB5.below b4 hB5.lt
  have hB6 := hB6.below b4 hB6.lt
  have z4 := z3.below b4
  have hN7 := tab_fr hTo ng7
  have hu7 : (.slice A (nms mm).length cp : Value).ownBlock ≠ some g7 := fun e => absurd (own_lt huo e) (Nat.not_lt.2 ng7)
  show wpList _ _ _ (_ :: _) _ _
  have hTo := hT
  refine alloc_on (u := 3) (z := #[.int .i64 0]) s4 (by simp [Region.wanted]) rfl (by decide) (al_3v _ _) (vv 0 rfl (vv 4 rfl (vv 5 rfl (vv 6 rfl (vv 7 rfl vn))))) fun g8 a5 w5 hB8 hg8 b5 s5 => ?_
  have ng8 := hg8
  have hg8 := Nat.le_trans z4.size hg8
  have hT := hT.below b5
  have hM := hM.below b5
  have hu := own_below hu b5
  have hB4 := hB4.below b5 hB4.lt
  have hB5 := hB5.below b5 hB5.lt
  have hB6 := hB6.below b5 hB6.lt
  have hB7 := hB7.below b5 hB7.lt
  have z5 := z4.below b5
  have hN8 := tab_fr hTo ng8
  show wpList _ _ _ (_ :: _) _ _
  refine cells_on (vs := [.int .u64 0]) s5 rfl rfl rfl (s5.get 7 rfl) rfl rfl hB7 (by simp) sz_28' (fun u hu => by rw [List.mem_singleton.1 hu]; rfl) (vv 0 rfl (vv 4 rfl (vv 5 rfl (vv 6 rfl (vv 7 rfl (vv 8 rfl vn)))))) fun a6 w6 hq6 gS s6 => ?_
  have hT := hT.grown gS (fun j hj e => hN7 (by injection e with e; rw [e]; exact hj))
  have hM := hM.grown gS (fun e => map_ne hB7 hM (by injection e))
  have hu := own_grownR hu gS (.inr (hu7))
  have hB4 := hB4.grown gS (fun e => blk_ne hB4 hB7 (by decide) (by injection e))
  have hB5 := hB5.grown gS (fun e => blk_ne hB5 hB7 (by decide) (by injection e))
  have hB6 := hB6.grown gS (fun e => blk_ne hB6 hB7 (by decide) (by injection e))
  have hB8 := hB8.grown gS (fun e => blk_ne hB8 hB7 (by decide) (by injection e))
  have hB7 : Blk w6 g7 28 #[.int .u64 0] := hq6
  have z6 := z5.grown gS (fun x hx e => absurd hg7 (Nat.not_le.2 (by injection e with e; rw [e]; exact hx)))
  show wpList _ _ _ (_ :: _) _ _
  refine cells_on (vs := [.int .i64 0]) s6 rfl rfl rfl (s6.get 8 rfl) rfl rfl hB8 (by simp) sz_3' (fun u hu => by rw [List.mem_singleton.1 hu]; rfl) (vv 0 rfl (vv 4 rfl (vv 5 rfl (vv 6 rfl (vv 7 rfl (vv 8 rfl vn)))))) fun a7 w7 hq7 gS s7 => ?_
  have hT := hT.grown gS (fun j hj e => tab_ty hT hB8 (by decide) (by decide) (by decide) (by decide) (by injection e with e; rw [e]; exact hj))
  have hM := hM.grown gS (fun e => map_ne hB8 hM (by injection e))
  have hu := own_grownR hu gS (.inr (row_ne hB8 hu (by decide)))
  have hB4 := hB4.grown gS (fun e => blk_ne hB4 hB8 (by decide) (by injection e))
  have hB5 := hB5.grown gS (fun e => blk_ne hB5 hB8 (by decide) (by injection e))
  have hB6 := hB6.grown gS (fun e => blk_ne hB6 hB8 (by decide) (by injection e))
  have hB7 := hB7.grown gS (fun e => blk_ne hB7 hB8 (by decide) (by injection e))
  have hB8 : Blk w7 g8 3 #[.int .i64 0] := hq7
  have z7 := z6.grown gS (fun x hx e => absurd hg8 (Nat.not_le.2 (by injection e with e; rw [e]; exact hx)))
  refine wpList_done ?_
  refine wp_seq ?_
  refine wp_seq ?_
  refine flowC mixed (s7.keep (sc 0 rfl (sc 4 rfl (sc 5 rfl (sc 6 rfl (sc 7 rfl (sc 8 rfl sn))))))) (by kernel_rfl) (by kernel_rfl) (cc rfl (p_move g0 (od rfl id))
      (cc rfl (p_mk37 g0 (od rfl id)) cn)) fun a8 w8 b8 s8 => ?_
  have z8 := z7.below b8
  have hT := hT.below b8
  have hM := hM.below b8
  have hu := own_below hu b8
  have hB4 := hB4.below b8 hB4.lt
  have hB5 := hB5.below b8 hB5.lt
  have hB6 := hB6.below b8 hB6.lt
  have hB7 := hB7.below b8 hB7.lt
  have hB8 := hB8.below b8 hB8.lt
  have hsz : w.heap.size ≤ w8.heap.size := z8.size
  have hlt4 := hB4.lt
  have hlt5 := hB5.lt
  have hlt6 := hB6.lt
  have hlt7 := hB7.lt
  have hlt8 := hB8.lt
  have hltm := hM.lt
  have hltu : ∀ q, (.slice A (nms mm).length cp : Value).ownBlock = some q → q < w8.heap.size := fun q hq => own_lt hu hq
  have hlT : ∀ i, TabB gT gM t kv i → i < w8.heap.size := fun i hi => (hT.lt hi).2
  refine wp_cutM (fun a W => SameI w B Bu gT gM gm g4 g5 g6 g7 g8 t kv mm (.slice A (nms mm).length cp) ns (ns.map (lookG t)) W ∧ W.heap[w8.heap.size]? = some (.deferred (some [])) ∧ StE False 118 [(0, true, .val (ptrV gT)), (4, true, .val (ptrV g4)), (5, true, .val (ptrV g5)), (6, true, .val (ptrV g6)), (7, true, .val (ptrV g7)), (8, true, .val (ptrV g8))] noF a W [mark w8.heap.size]) ?_ ?_
  · -- the range
    refine wp_block ?_
    refine range_m (E := fun g => g = g7 ∨ g = g8) (xs := ns.map (lookG t)) (enc := ptrV) s8 (vv 0 rfl (vv 4 rfl (vv 5 rfl (vv 6 rfl (vv 7 rfl (vv 8 rfl vn)))))) (by decide) (by decide) (s8.get 14 rfl) enters37 (SameI w B Bu gT gM gm g4 g5 g6 g7 g8 t kv mm (.slice A (nms mm).length cp) ns) (fun _ _ _ => False) (fun p A C h hb => h.below hb hlT hltm hlt4 hlt5 hlt6 hlt7 hlt8 hltu hsz) (fun c p A C h _ => h) ⟨0, 0, rfl, Nat.zero_le _, fun x hx => hpos x hx, hB7, hB8, hT, hM, hB4, hB5, hB6, hu, z8⟩ (iAllR hT hI hns' hrise (fun g hg => by rcases hg with rfl | rfl; exact ⟨hlt7, (fun e => hN7 (.inl e)), fun e => hN7 (.inr (.inl e))⟩; exact ⟨hlt8, (fun e => hN8 (.inl e)), fun e => hN8 (.inr (.inl e))⟩)) (fun lp pre y a0 W hSI hpre hlt2 s0 => ?_) (fun a0 W hSI hK s0 => ?_) (fun c pre a0 W hpre hSI hK s0 => hSI.elim)
    · -- a round
      obtain ⟨k, last, hpe, hk, hlast, hB7, hB8, hT, hM, hB4, hB5, hB6, hu, zq⟩ := hSI
      obtain ⟨hkl, hkx, hpk⟩ := pre_next hpe (by rw [List.length_map]; exact hk) hpre
      rw [List.length_map] at hkl
      obtain ⟨x, ex⟩ : ∃ x, ns[k]? = some x := ⟨_, List.getElem?_eq_getElem hkl⟩
      rw [List.getElem?_map, ex] at hkx
      obtain rfl : lookG t x = y := by injection hkx
      have hxm := hns.mem_iff.1 (List.mem_of_getElem? ex)
      obtain ⟨th, hmem, hlook, hob⟩ := hI.objs hxm
      have hck := (hI.cr _ hmem).1
      dsimp only at hck
      have hdrop : ns.drop k = x :: ns.drop (k + 1) := by obtain ⟨h1, h2⟩ := List.getElem?_eq_some_iff.1 ex; rw [← h2]; exact List.drop_eq_getElem_cons h1
      have hlx : last < x := hlast x (by rw [hdrop]; exact List.mem_cons_self)
      have hnext : ∀ y ∈ ns.drop (k + 1), x < y := fun y hy => by have := hrise.sublist (List.drop_sublist k ns); rw [hdrop] at this; exact (List.pairwise_cons.1 this).1 y hy
      have hk16 : k < 16 := by omega
      have hBo := (hT.ob _ _ hob).blk
      have zr : OnlyB (fun g => g = g7 ∨ g = g8) W W := OnlyB.refl _ _
      refine wpIn_block ?_
      refine wpIn_seq ?_
      refine wpIn_seq ?_
      have s0 := s0.more 9 (y := .bp (lookG t x) 48 (toC ⟨x, (crOf mm x).what, (crOf mm x).home, kidsOf mm x, th⟩ (kv (lookG t x))) 0) (at_obj hBo (s0.get 9 rfl))
      have s0 := s0.more 7 (y := .bp g7 28 #[.int .u64 last] 0) (at_obj hB7 (s0.get 7 rfl))
      have s0 := s0.more 4 (y := .tab g4 gm 92 (mV mm)) (⟨(s0.get 4 rfl), hB4, hM, fun _ h => h, fun _ h => h⟩)
      refine flowCIn mixed (fun ⟨_, _, h⟩ => h) (by kernel_rfl) (s0.keep (sc 0 rfl (sc 4 rfl (sc 5 rfl (sc 6 rfl (sc 7 rfl (sc 8 rfl (sc 9 rfl sn)))))))) (by kernel_rfl) (by kernel_rfl) (cc rfl (p_move g0 (od rfl id))
          (cc rfl (p_nilB g0 (od rfl id))
          (cc rfl (p_faB fa_48_1 g0 (od rfl id))
          (cc rfl (p_ldB ld_28 rfl g0 (od rfl id))
          (cc rfl (p_ldB ld_28 rfl g0 (od rfl id))
          (cc rfl (p_bin g0 (od rfl id) (od rfl id) b_leq_28)
          (cc rfl (p_move g0 (od rfl id))
          (cc rfl (p_ldT ld_92 (g1 rfl rfl) (od rfl (fun _ => rfl)))
          (cc rfl (p_move (g1 rfl rfl) (od rfl (fun _ => rfl)))
          (cc rfl (p_nilB (g1 rfl rfl) (od rfl id))
          (cc rfl (p_faB fa_48_1 (g1 rfl rfl) (od rfl id))
          (cc rfl (p_ldB ld_28 rfl (g1 rfl rfl) (od rfl id))
          (cc rfl (p_lookC (g1 rfl rfl) (od rfl id) (od rfl id))
          (cc rfl (p_run1 (od rfl id) fo_94_0 (fun s h => by simp [Op.operands, h]) (g1 rfl rfl))
          (cc rfl (p_bin (g1 rfl rfl) (od rfl id) (oc _) b_neq_3)
          (cc rfl (p_or g0 (od rfl id) (od rfl id))
          (cc rfl (p_move g0 (od rfl id))
          (cc rfl (p_move (g1 rfl rfl) (od rfl (fun _ => rfl)))
          (cc rfl (p_nilB (g1 rfl rfl) (od rfl id))
          (cc rfl (p_faB fa_48_4 (g1 rfl rfl) (od rfl id))
          (cc rfl (p_ldB ld_28 rfl (g1 rfl rfl) (od rfl id))
          (cc rfl (p_ldT ld_92 (g1 rfl rfl) (od rfl (fun _ => rfl)))
          (cc rfl (p_move (g1 rfl rfl) (od rfl (fun _ => rfl)))
          (cc rfl (p_nilB (g1 rfl rfl) (od rfl id))
          (cc rfl (p_faB fa_48_1 (g1 rfl rfl) (od rfl id))
          (cc rfl (p_ldB ld_28 rfl (g1 rfl rfl) (od rfl id))
          (cc rfl (p_lookC (g1 rfl rfl) (od rfl id) (od rfl id))
          (cc rfl (p_run1 (od rfl id) fo_94_2 (fun s h => by simp [Op.operands, h]) (g1 rfl rfl))
          (cc rfl (p_bin (g1 rfl rfl) (od rfl id) (od rfl id) b_neq_28)
          (cc rfl (p_or g0 (od rfl id) (od rfl id)) cn)))))))))))))))))))))))))))))) fun a9 w9 b9 s9 => ?_
      have z9 := zq.below b9
      have hT := hT.below b9
      have hM := hM.below b9
      have hu := own_below hu b9
      have hB4 := hB4.below b9 hB4.lt
      have hB5 := hB5.below b9 hB5.lt
      have hB6 := hB6.below b9 hB6.lt
      have hB7 := hB7.below b9 hB7.lt
      have hB8 := hB8.below b9 hB8.lt
      have hBo := hBo.below b9 hBo.lt
      have zr := zr.below b9
      have s9 := s9.more 9 (y := .val (ptrV (lookG t x))) (s9.get 9 rfl).1
      have s9 := s9.more 7 (y := .val (ptrV g7)) (s9.get 7 rfl).1
      have s9 := s9.more 4 (y := .val (ptrV g4)) (s9.get 4 rfl).1
      refine s9.condIn 45 rfl (fun h => absurd h (by rw [hck]; simp; omega)) fun _ => ?_
      refine wpIn_skip ?_
      refine wpIn_seq ?_
      refine reg_in (fun ⟨_, _, h⟩ => h) (by kernel_rfl) ?_
      refine with_st (s9.keep (sc 0 rfl (sc 4 rfl (sc 5 rfl (sc 6 rfl (sc 7 rfl (sc 8 rfl (sc 9 rfl sn)))))))) fun s9 => ?_
      have s9 := s9.more 9 (y := .bp (lookG t x) 48 (toC ⟨x, (crOf mm x).what, (crOf mm x).home, kidsOf mm x, th⟩ (kv (lookG t x))) 0) (at_obj hBo (s9.get 9 rfl))
      refine chainK 4 (cc rfl (p_move g0 (od rfl id))
          (cc rfl (p_nilB g0 (od rfl id))
          (cc rfl (p_faB fa_48_1 g0 (od rfl id))
          (cc rfl (p_ldB ld_28 rfl g0 (od rfl id)) cn)))) (by kernel_rfl) s9 fun a10 w10 b10 s10 => ?_
      have z10 := z9.below b10
      have hT := hT.below b10
      have hM := hM.below b10
      have hu := own_below hu b10
      have hB4 := hB4.below b10 hB4.lt
      have hB5 := hB5.below b10 hB5.lt
      have hB6 := hB6.below b10 hB6.lt
      have hB7 := hB7.below b10 hB7.lt
      have hB8 := hB8.below b10 hB8.lt
      have hBo := hBo.below b10 hBo.lt
      have zr := zr.below b10
      have s10 := s10.more 9 (y := .val (ptrV (lookG t x))) (s10.get 9 rfl).1
      show wpList _ _ _ (_ :: _) _ _
      refine cells_on (vs := [.int .u64 x]) s10 rfl rfl rfl (s10.get 7 rfl) (s10.get 49 rfl) rfl hB7 (by simp) sz_28' (fun u hu => by rw [List.mem_singleton.1 hu]; rfl) (vv 0 rfl (vv 4 rfl (vv 5 rfl (vv 6 rfl (vv 7 rfl (vv 8 rfl (vv 9 rfl vn))))))) fun a11 w11 hq11 gS s11 => ?_
      have zr := zr.grown gS (fun x _ e => .inl (by injection e with e; exact e.symm))
      have hT := hT.grown gS (fun j hj e => hN7 (by injection e with e; rw [e]; exact hj))
      have hM := hM.grown gS (fun e => map_ne hB7 hM (by injection e))
      have hu := own_grownR hu gS (.inr (hu7))
      have hB4 := hB4.grown gS (fun e => blk_ne hB4 hB7 (by decide) (by injection e))
      have hB5 := hB5.grown gS (fun e => blk_ne hB5 hB7 (by decide) (by injection e))
      have hB6 := hB6.grown gS (fun e => blk_ne hB6 hB7 (by decide) (by injection e))
      have hB8 := hB8.grown gS (fun e => blk_ne hB8 hB7 (by decide) (by injection e))
      have hBo := hBo.grown gS (fun e => blk_ne hBo hB7 (by decide) (by injection e))
      have hB7 : Blk w11 g7 28 #[.int .u64 x] := hq11
      have z11 := z10.grown gS (fun x hx e => absurd hg7 (Nat.not_le.2 (by injection e with e; rw [e]; exact hx)))
      refine wpList_done ?_
      refine wpIn_seq ?_
      refine reg_in (fun ⟨_, _, h⟩ => h) (by kernel_rfl) ?_
      refine with_st (s11.keep (sc 0 rfl (sc 4 rfl (sc 5 rfl (sc 6 rfl (sc 7 rfl (sc 8 rfl (sc 9 rfl sn)))))))) fun s11 => ?_
      have s11 := s11.more 8 (y := .bp g8 3 #[.int .i64 (k : Int)] 0) (at_obj hB8 (s11.get 8 rfl))
      refine chainK 2 (cc rfl (p_ldB ld_3 rfl g0 (od rfl id))
          (cc rfl (p_bin g0 (od rfl id) (oc _) (inc_3 (by omega))) cn)) (by kernel_rfl) s11 fun a12 w12 b12 s12 => ?_
      have z12 := z11.below b12
      have hT := hT.below b12
      have hM := hM.below b12
      have hu := own_below hu b12
      have hB4 := hB4.below b12 hB4.lt
      have hB5 := hB5.below b12 hB5.lt
      have hB6 := hB6.below b12 hB6.lt
      have hB7 := hB7.below b12 hB7.lt
      have hB8 := hB8.below b12 hB8.lt
      have hBo := hBo.below b12 hBo.lt
      have zr := zr.below b12
      have s12 := s12.more 8 (y := .val (ptrV g8)) (s12.get 8 rfl).1
      show wpList _ _ _ (_ :: _) _ _
      refine cells_on (vs := [.int .i64 ((k + 1 : Nat) : Int)]) s12 rfl rfl rfl (s12.get 8 rfl) (s12.get 51 rfl) rfl hB8 (by simp) sz_3' (fun u hu => by rw [List.mem_singleton.1 hu]; rfl) (vv 0 rfl (vv 4 rfl (vv 5 rfl (vv 6 rfl (vv 7 rfl (vv 8 rfl (vv 9 rfl vn))))))) fun a13 w13 hq13 gS s13 => ?_
      have zr := zr.grown gS (fun x _ e => .inr (by injection e with e; exact e.symm))
      have hT := hT.grown gS (fun j hj e => tab_ty hT hB8 (by decide) (by decide) (by decide) (by decide) (by injection e with e; rw [e]; exact hj))
      have hM := hM.grown gS (fun e => map_ne hB8 hM (by injection e))
      have hu := own_grownR hu gS (.inr (row_ne hB8 hu (by decide)))
      have hB4 := hB4.grown gS (fun e => blk_ne hB4 hB8 (by decide) (by injection e))
      have hB5 := hB5.grown gS (fun e => blk_ne hB5 hB8 (by decide) (by injection e))
      have hB6 := hB6.grown gS (fun e => blk_ne hB6 hB8 (by decide) (by injection e))
      have hB7 := hB7.grown gS (fun e => blk_ne hB7 hB8 (by decide) (by injection e))
      have hBo := hBo.grown gS (fun e => blk_ne hBo hB8 (by decide) (by injection e))
      have hB8 : Blk w13 g8 3 #[.int .i64 ((k + 1 : Nat) : Int)] := hq13
      have z13 := z12.grown gS (fun x hx e => absurd hg8 (Nat.not_le.2 (by injection e with e; rw [e]; exact hx)))
      refine wpList_done ?_
      refine wpIn_seq ?_
      refine wpIn_seq ?_
      have s13 := s13.more 9 (y := .bp (lookG t x) 48 (toC ⟨x, (crOf mm x).what, (crOf mm x).home, kidsOf mm x, th⟩ (kv (lookG t x))) 0) (at_obj hBo (s13.get 9 rfl))
      refine flowCIn mixed (fun ⟨_, _, h⟩ => h) (by kernel_rfl) (s13.keep (sc 0 rfl (sc 4 rfl (sc 5 rfl (sc 6 rfl (sc 7 rfl (sc 8 rfl (sc 9 rfl sn)))))))) (by kernel_rfl) (by kernel_rfl) (cc rfl (p_move g0 (od rfl id))
          (cc rfl (p_nilB g0 (od rfl id))
          (cc rfl (p_faB fa_48_2 g0 (od rfl id))
          (cc rfl (p_ldB ld_3 rfl g0 (od rfl id))
          (cc rfl (p_bin g0 (od rfl id) (oc _) b_neq_3) cn))))) fun a14 w14 b14 s14 => ?_
      have z14 := z13.below b14
      have hT := hT.below b14
      have hM := hM.below b14
      have hu := own_below hu b14
      have hB4 := hB4.below b14 hB4.lt
      have hB5 := hB5.below b14 hB5.lt
      have hB6 := hB6.below b14 hB6.lt
      have hB7 := hB7.below b14 hB7.lt
      have hB8 := hB8.below b14 hB8.lt
      have hBo := hBo.below b14 hBo.lt
      have zr := zr.below b14
      have s14 := s14.more 9 (y := .val (ptrV (lookG t x))) (s14.get 9 rfl).1
      refine s14.condIn 56 rfl (fun h56 => ?_) (fun h56 => ?_)
      · -- true
        refine wpIn_exit ?_
        exact ⟨⟨zr.block _ (by omega) (by omega), zr.block _ (by omega) (by omega)⟩, KeepE.only (zr.mono fun _ _ h => h), k + 1, x, hpk, by omega, hnext, hB7, hB8, hT, hM, hB4, hB5, hB6, hu, z14⟩
      · -- false
        refine wpIn_skip ?_
        refine wpIn_seq ?_
        refine flowCIn mixed (fun ⟨_, _, h⟩ => h) (by kernel_rfl) (s14.keep (sc 0 rfl (sc 4 rfl (sc 5 rfl (sc 6 rfl (sc 7 rfl (sc 8 rfl (sc 9 rfl sn)))))))) (by kernel_rfl) (by kernel_rfl) (cc rfl (p_assign g0 (oc _)) cn) fun a15 w15 b15 s15 => ?_
        have z15 := z14.below b15
        have hT := hT.below b15
        have hM := hM.below b15
        have hu := own_below hu b15
        have hB4 := hB4.below b15 hB4.lt
        have hB5 := hB5.below b15 hB5.lt
        have hB6 := hB6.below b15 hB6.lt
        have hB7 := hB7.below b15 hB7.lt
        have hB8 := hB8.below b15 hB8.lt
        have hBo := hBo.below b15 hBo.lt
        have zr := zr.below b15
        refine wpIn_seq ?_
        refine wpIn_seq ?_
        have s15 := s15.more 5 (y := .bp g5 29 #[.slice A (nms mm).length cp] 0) (at_obj hB5 (s15.get 5 rfl))
        refine flowCIn mixed (fun ⟨_, _, h⟩ => h) (by kernel_rfl) (s15.keep (sc 0 rfl (sc 4 rfl (sc 5 rfl (sc 6 rfl (sc 7 rfl (sc 8 rfl (sc 9 rfl (sc 10 rfl sn))))))))) (by kernel_rfl) (by kernel_rfl) (cc rfl (p_ldB ld_29 rfl g0 (od rfl id))
            (cc rfl (p_lenV ln_29 g0 (od rfl id))
            (cc rfl (p_move g0 (oc _)) cn))) fun a16 w16 b16 s16 => ?_
        have z16 := z15.below b16
        have hT := hT.below b16
        have hM := hM.below b16
        have hu := own_below hu b16
        have hB4 := hB4.below b16 hB4.lt
        have hB5 := hB5.below b16 hB5.lt
        have hB6 := hB6.below b16 hB6.lt
        have hB7 := hB7.below b16 hB7.lt
        have hB8 := hB8.below b16 hB8.lt
        have hBo := hBo.below b16 hBo.lt
        have zr := zr.below b16
        have s16 := s16.more 5 (y := .val (ptrV g5)) (s16.get 5 rfl).1
        refine wpIn_block ?_
        refine wp_loopKIn (fun K a wr => ∃ j, K = (nms mm).length - j ∧ j ≤ (nms mm).length ∧ TabAt wr B gT gM t kv ∧ MapAt wr gm .u64 (mV mm) ∧ wr.ownsRow Bu 28 1 (.slice A (nms mm).length cp) (nms mm).length ((nms mm).flatMap kE) ∧ Blk wr g4 92 #[.map (some gm)] ∧ Blk wr g5 29 #[.slice A (nms mm).length cp] ∧ Blk wr g6 4 #[.bool false] ∧ Blk wr g7 28 #[.int .u64 x] ∧ Blk wr g8 3 #[.int .i64 ((k + 1 : Nat) : Int)] ∧ OnlyB (fun g => g = g7 ∨ g = g8) W wr ∧ OnlyB (fun _ => False) w wr ∧ StE False 118 [(0, true, .val (ptrV gT)), (4, true, .val (ptrV g4)), (5, true, .val (ptrV g5)), (6, true, .val (ptrV g6)), (7, true, .val (ptrV g7)), (8, true, .val (ptrV g8)), (9, true, .val (ptrV (lookG t x))), (10, true, .int .i64 ((kidsOf (mm.take j) x).length : Int)), (57, true, .val (.slice A (nms mm).length cp)), (58, true, .int .i64 ((nms mm).length : Int)), (59, true, .int .i64 (j : Int))] noF a wr) (nms mm).length ⟨0, rfl, Nat.zero_le _, hT, hM, hu, hB4, hB5, hB6, hB7, hB8, zr, z16, s16.to _ ⟨rfl, rfl, rfl, rfl, rfl, rfl, rfl, rfl, rfl, rfl, rfl, True.intro⟩⟩ fun K a17 w17 hJ => ?_
        obtain ⟨j, rfl, hjl, hT, hM, hu, hB4, hB5, hB6, hB7, hB8, zr, z17, s17⟩ := hJ
        have hBo := (hT.ob _ _ hob).blk
        refine wpIn_seq ?_
        refine flowCIn mixed (fun ⟨_, _, h⟩ => h) (by kernel_rfl) (s17.keep (sc 0 rfl (sc 4 rfl (sc 5 rfl (sc 6 rfl (sc 7 rfl (sc 8 rfl (sc 9 rfl (sc 10 rfl (sc 57 rfl (sc 58 rfl (sc 59 rfl sn)))))))))))) (by kernel_rfl) (by kernel_rfl) (cc rfl (p_bin g0 (od rfl id) (od rfl id) b_lss_3) cn) fun a18 w18 b18 s18 => ?_
        have z18 := z17.below b18
        have hT := hT.below b18
        have hM := hM.below b18
        have hu := own_below hu b18
        have hB4 := hB4.below b18 hB4.lt
        have hB5 := hB5.below b18 hB5.lt
        have hB6 := hB6.below b18 hB6.lt
        have hB7 := hB7.below b18 hB7.lt
        have hB8 := hB8.below b18 hB8.lt
        have hBo := hBo.below b18 hBo.lt
        have zr := zr.below b18
        refine wpIn_seq ?_
        refine s18.condIn 60 rfl (fun h60 => ?_) (fun h60 => ?_)
        · -- true
          have hlt : j < (nms mm).length := by simpa using h60
          obtain ⟨p, ep⟩ : ∃ p, mm[j]? = some p := ⟨_, List.getElem?_eq_getElem (by simpa using hlt)⟩
          have ek : (nms mm)[j]? = some p.1 := by rw [List.getElem?_map, ep]; rfl
          have hpm := List.mem_of_getElem? ep
          have ecr := cr_mem hI.nd hpm
          have hknx := kid_next ep x
          refine wpIn_skip ?_
          refine wpIn_seq ?_
          refine wpIn_block ?_
          refine wpIn_seq ?_
          have s18 := s18.more 57 (y := .both (.val (.slice A (nms mm).length cp)) (.one (Lay.sl (Lay.int .u64)) (nms mm))) (at_row hu (s18.get 57 rfl))
          refine flowCIn mixed (fun ⟨_, _, h⟩ => h) (by kernel_rfl) (s18.keep (sc 0 rfl (sc 4 rfl (sc 5 rfl (sc 6 rfl (sc 7 rfl (sc 8 rfl (sc 9 rfl (sc 10 rfl (sc 57 rfl (sc 58 rfl (sc 59 rfl (sc 60 rfl sn))))))))))))) (by kernel_rfl) (by kernel_rfl) (cc rfl (p_index ix_29 ek g0 (od2 rfl id) (od rfl id))
              (cc rfl (p_loadI ld_28 g0 (od rfl id))
              (cc rfl (p_assign g0 (od rfl id)) cn))) fun a19 w19 b19 s19 => ?_
          have z19 := z18.below b19
          have hT := hT.below b19
          have hM := hM.below b19
          have hu := own_below hu b19
          have hB4 := hB4.below b19 hB4.lt
          have hB5 := hB5.below b19 hB5.lt
          have hB6 := hB6.below b19 hB6.lt
          have hB7 := hB7.below b19 hB7.lt
          have hB8 := hB8.below b19 hB8.lt
          have hBo := hBo.below b19 hBo.lt
          have zr := zr.below b19
          have s19 := s19.more 57 (y := .val (.slice A (nms mm).length cp)) (s19.get 57 rfl).1
          refine wpIn_seq ?_
          have s19 := s19.more 4 (y := .tab g4 gm 92 (mV mm)) (⟨(s19.get 4 rfl), hB4, hM, fun _ h => h, fun _ h => h⟩)
          have s19 := s19.more 9 (y := .bp (lookG t x) 48 (toC ⟨x, (crOf mm x).what, (crOf mm x).home, kidsOf mm x, th⟩ (kv (lookG t x))) 0) (at_obj hBo (s19.get 9 rfl))
          refine flowCIn mixed (fun ⟨_, _, h⟩ => h) (by kernel_rfl) (s19.keep (sc 0 rfl (sc 4 rfl (sc 5 rfl (sc 6 rfl (sc 7 rfl (sc 8 rfl (sc 9 rfl (sc 10 rfl (sc 12 rfl (sc 57 rfl (sc 58 rfl (sc 59 rfl (sc 60 rfl (sc 61 rfl (sc 62 rfl sn)))))))))))))))) (by kernel_rfl) (by kernel_rfl) (cc rfl (p_ldT ld_92 g0 (od rfl id))
              (cc rfl (p_move g0 (od rfl id))
              (cc rfl (p_lookC g0 (od rfl id) (od rfl id))
              (cc rfl (p_run1 (od rfl id) fo_94_2 (fun s h => by simp [Op.operands, h]) g0)
              (cc rfl (p_move g0 (od rfl id))
              (cc rfl (p_nilB g0 (od rfl id))
              (cc rfl (p_faB fa_48_1 g0 (od rfl id))
              (cc rfl (p_ldB ld_28 rfl g0 (od rfl id))
              (cc rfl (p_bin g0 (od rfl id) (od rfl id) b_eql_28)
              (cc rfl (p_move g0 (od rfl id))
              (cc rfl (p_move (g1 rfl rfl) (od rfl (fun _ => rfl)))
              (cc rfl (p_move (g1 rfl rfl) (od rfl (fun _ => rfl)))
              (cc rfl (p_nilB (g1 rfl rfl) (od rfl id))
              (cc rfl (p_faB fa_48_1 (g1 rfl rfl) (od rfl id))
              (cc rfl (p_ldB ld_28 rfl (g1 rfl rfl) (od rfl id))
              (cc rfl (p_bin (g1 rfl rfl) (od rfl id) (od rfl id) b_neq_28)
              (cc rfl (p_and g0 (od rfl id) (od rfl id)) cn))))))))))))))))) fun a20 w20 b20 s20 => ?_
          have z20 := z19.below b20
          have hT := hT.below b20
          have hM := hM.below b20
          have hu := own_below hu b20
          have hB4 := hB4.below b20 hB4.lt
          have hB5 := hB5.below b20 hB5.lt
          have hB6 := hB6.below b20 hB6.lt
          have hB7 := hB7.below b20 hB7.lt
          have hB8 := hB8.below b20 hB8.lt
          have hBo := hBo.below b20 hBo.lt
          have zr := zr.below b20
          have s20 := s20.more 4 (y := .val (ptrV g4)) (s20.get 4 rfl).1
          have s20 := s20.more 9 (y := .val (ptrV (lookG t x))) (s20.get 9 rfl).1
          refine s20.condIn 79 rfl (fun h79 => ?_) (fun h79 => ?_)
          · -- true
            have hkx2 : p.2.home = x := by have h := h79; rw [ecr, Bool.and_eq_true] at h; simpa using h.1
            obtain ⟨hkid, hklt⟩ := kid_at ep hkx2
            rw [if_pos hkx2] at hknx
            have hkl3 := kid_len (mm := mm) (x := x)
            refine wpIn_seq ?_
            refine wpIn_seq ?_
            refine reg_in (fun ⟨_, _, h⟩ => h) (by kernel_rfl) ?_
            refine with_st (s20.keep (sc 0 rfl (sc 4 rfl (sc 5 rfl (sc 6 rfl (sc 7 rfl (sc 8 rfl (sc 9 rfl (sc 10 rfl (sc 12 rfl (sc 57 rfl (sc 58 rfl (sc 59 rfl sn))))))))))))) fun s20 => ?_
            have s20 := s20.more 9 (y := .bp (lookG t x) 48 (toC ⟨x, (crOf mm x).what, (crOf mm x).home, kidsOf mm x, th⟩ (kv (lookG t x))) 0) (at_obj hBo (s20.get 9 rfl))
            refine chainK 8 (cc rfl (p_move g0 (od rfl id))
                (cc rfl (p_move g0 (od rfl id))
                (cc rfl (p_nilB g0 (od rfl id))
                (cc rfl (p_faB fa_48_9 g0 (od rfl id))
                (cc rfl (p_ldB ld_29 rfl g0 (od rfl id))
                (cc rfl (p_lenW (own_slice (hT.ob _ _ hob).row) ln_29 g0 (od rfl id))
                (cc rfl (p_bin g0 (od rfl id) (od rfl id) b_eql_3)
                (cc rfl (p_move g0 (od rfl id)) cn)))))))) (by kernel_rfl) s20 fun a21 w21 b21 s21 => ?_
            have z21 := z20.below b21
            have hT := hT.below b21
            have hM := hM.below b21
            have hu := own_below hu b21
            have hB4 := hB4.below b21 hB4.lt
            have hB5 := hB5.below b21 hB5.lt
            have hB6 := hB6.below b21 hB6.lt
            have hB7 := hB7.below b21 hB7.lt
            have hB8 := hB8.below b21 hB8.lt
            have hBo := hBo.below b21 hBo.lt
            have zr := zr.below b21
            have s21 := s21.more 87 (y := .bool false) (bool_as (s21.get 87 rfl) (by simp; omega))
            refine chainK 4 (cc rfl (p_move (g1 rfl rfl) (od rfl (fun _ => rfl)))
                (cc rfl (p_nilB (g1 rfl rfl) (od rfl id))
                (cc rfl (p_faB fa_48_9 (g1 rfl rfl) (od rfl id))
                (cc rfl (p_ldB ld_29 rfl (g1 rfl rfl) (od rfl id)) cn)))) (by kernel_rfl) s21 fun a22 w22 b22 s22 => ?_
            have z22 := z21.below b22
            have hT := hT.below b22
            have hM := hM.below b22
            have hu := own_below hu b22
            have hB4 := hB4.below b22 hB4.lt
            have hB5 := hB5.below b22 hB5.lt
            have hB6 := hB6.below b22 hB6.lt
            have hB7 := hB7.below b22 hB7.lt
            have hB8 := hB8.below b22 hB8.lt
            have hBo := hBo.below b22 hBo.lt
            have zr := zr.below b22
            have s22 := s22.more 91 (y := .both (.val (kv (lookG t x))) (.one (Lay.sl (Lay.int .u64)) (kidsOf mm x))) (at_row (hT.ob _ _ hob).row (s22.get 91 rfl))
            refine chainK 6 (cc rfl (p_move (g1 rfl rfl) (od rfl (fun _ => rfl)))
                (cc rfl (p_index ix_29 hkid (g1 rfl rfl) (od2 rfl (fun _ => rfl)) (od rfl id))
                (cc rfl (p_loadI ld_28 (g1 rfl rfl) (od rfl id))
                (cc rfl (p_move (g1 rfl rfl) (od rfl (fun _ => rfl)))
                (cc rfl (p_bin (g1 rfl rfl) (od rfl id) (od rfl id) b_neq_28)
                (cc rfl (p_or g0 (od rfl id) (od rfl id)) cn)))))) (by kernel_rfl) s22 fun a23 w23 b23 s23 => ?_
            have z23 := z22.below b23
            have hT := hT.below b23
            have hM := hM.below b23
            have hu := own_below hu b23
            have hB4 := hB4.below b23 hB4.lt
            have hB5 := hB5.below b23 hB5.lt
            have hB6 := hB6.below b23 hB6.lt
            have hB7 := hB7.below b23 hB7.lt
            have hB8 := hB8.below b23 hB8.lt
            have hBo := hBo.below b23 hBo.lt
            have zr := zr.below b23
            refine wpList_done ?_
            have s23 := s23.more 9 (y := .val (ptrV (lookG t x))) (s23.get 9 rfl).1
            refine s23.condIn 97 rfl (fun h => absurd h (by simp)) fun _ => ?_
            refine wpIn_skip ?_
            refine flowTIn (fun ⟨_, _, h⟩ => h) (by kernel_rfl) (s23.keep (sc 0 rfl (sc 4 rfl (sc 5 rfl (sc 6 rfl (sc 7 rfl (sc 8 rfl (sc 9 rfl (sc 10 rfl (sc 12 rfl (sc 57 rfl (sc 58 rfl (sc 59 rfl (sc 80 rfl (sc 81 rfl (sc 82 rfl (sc 83 rfl (sc 84 rfl (sc 85 rfl (sc 86 rfl (sc 87 rfl (sc 88 rfl (sc 89 rfl (sc 90 rfl (sc 91 rfl (sc 92 rfl (sc 93 rfl (sc 94 rfl (sc 95 rfl (sc 96 rfl (sc 97 rfl sn))))))))))))))))))))))))))))))) (by kernel_rfl) (cc rfl (p_move g0 (od rfl id))
                (cc rfl (p_bin g0 (od rfl id) (oc _) (inc_3 (by omega)))
                (cc rfl (p_assign g0 (od rfl id)) cn))) fun a24 w24 b24 s24 => ?_
            have z24 := z23.below b24
            have hT := hT.below b24
            have hM := hM.below b24
            have hu := own_below hu b24
            have hB4 := hB4.below b24 hB4.lt
            have hB5 := hB5.below b24 hB5.lt
            have hB6 := hB6.below b24 hB6.lt
            have hB7 := hB7.below b24 hB7.lt
            have hB8 := hB8.below b24 hB8.lt
            have hBo := hBo.below b24 hBo.lt
            have zr := zr.below b24
            have s24 := s24.more 10 (y := .int .i64 ((kidsOf (mm.take (j + 1)) x).length : Int)) ((s24.get 10 rfl).trans (by rw [hknx, List.length_append, List.length_singleton]))
            refine flowTIn (fun ⟨_, _, h⟩ => h) (by kernel_rfl) (s24.keep (sc 0 rfl (sc 4 rfl (sc 5 rfl (sc 6 rfl (sc 7 rfl (sc 8 rfl (sc 9 rfl (sc 10 rfl (sc 12 rfl (sc 57 rfl (sc 58 rfl (sc 59 rfl (sc 80 rfl (sc 81 rfl (sc 82 rfl (sc 83 rfl (sc 84 rfl (sc 85 rfl (sc 86 rfl (sc 87 rfl (sc 88 rfl (sc 89 rfl (sc 90 rfl (sc 91 rfl (sc 92 rfl (sc 93 rfl (sc 94 rfl (sc 95 rfl (sc 96 rfl (sc 97 rfl (sc 98 rfl (sc 99 rfl sn))))))))))))))))))))))))))))))))) (by kernel_rfl) (cc rfl (p_bin g0 (od rfl id) (oc _) (inc_3 (by omega)))
                (cc rfl (p_move g0 (od rfl id)) cn)) fun a25 w25 b25 s25 => ?_
            have z25 := z24.below b25
            have hT := hT.below b25
            have hM := hM.below b25
            have hu := own_below hu b25
            have hB4 := hB4.below b25 hB4.lt
            have hB5 := hB5.below b25 hB5.lt
            have hB6 := hB6.below b25 hB6.lt
            have hB7 := hB7.below b25 hB7.lt
            have hB8 := hB8.below b25 hB8.lt
            have hBo := hBo.below b25 hBo.lt
            have zr := zr.below b25
            exact ⟨(nms mm).length - (j + 1), by omega, j + 1, rfl, by omega, hT, hM, hu, hB4, hB5, hB6, hB7, hB8, zr, z25, s25.to _ ⟨rfl, rfl, rfl, rfl, rfl, rfl, rfl, rfl, rfl, rfl, rfl, True.intro⟩⟩
          · -- false
            have hkx2 : p.2.home ≠ x := fun e => by have h := h79; rw [ecr, e] at h; have h2 := hI.home_ne hpm; rw [e] at h2; simp at h; exact h2 h.symm
            rw [if_neg hkx2, List.append_nil] at hknx
            have s20 := s20.more 10 (y := .int .i64 ((kidsOf (mm.take (j + 1)) x).length : Int)) ((s20.get 10 rfl).trans (by rw [hknx]))
            refine wpIn_skip ?_
            refine flowTIn (fun ⟨_, _, h⟩ => h) (by kernel_rfl) (s20.keep (sc 0 rfl (sc 4 rfl (sc 5 rfl (sc 6 rfl (sc 7 rfl (sc 8 rfl (sc 9 rfl (sc 10 rfl (sc 12 rfl (sc 57 rfl (sc 58 rfl (sc 59 rfl (sc 60 rfl (sc 61 rfl (sc 62 rfl (sc 63 rfl (sc 64 rfl (sc 65 rfl (sc 66 rfl (sc 67 rfl (sc 68 rfl (sc 69 rfl (sc 70 rfl (sc 71 rfl (sc 72 rfl (sc 73 rfl (sc 74 rfl (sc 75 rfl (sc 76 rfl (sc 77 rfl (sc 78 rfl (sc 79 rfl sn))))))))))))))))))))))))))))))))) (by kernel_rfl) (cc rfl (p_bin g0 (od rfl id) (oc _) (inc_3 (by omega)))
                (cc rfl (p_move g0 (od rfl id)) cn)) fun a26 w26 b26 s26 => ?_
            have z26 := z20.below b26
            have hT := hT.below b26
            have hM := hM.below b26
            have hu := own_below hu b26
            have hB4 := hB4.below b26 hB4.lt
            have hB5 := hB5.below b26 hB5.lt
            have hB6 := hB6.below b26 hB6.lt
            have hB7 := hB7.below b26 hB7.lt
            have hB8 := hB8.below b26 hB8.lt
            have hBo := hBo.below b26 hBo.lt
            have zr := zr.below b26
            exact ⟨(nms mm).length - (j + 1), by omega, j + 1, rfl, by omega, hT, hM, hu, hB4, hB5, hB6, hB7, hB8, zr, z26, s26.to _ ⟨rfl, rfl, rfl, rfl, rfl, rfl, rfl, rfl, rfl, rfl, rfl, True.intro⟩⟩
        · -- false
          obtain rfl : j = (nms mm).length := by have := of_decide_eq_false h60; (try dsimp only at this); omega
          rw [mm_take_all] at s18
          refine wpIn_exit ?_
          refine wpIn_seq ?_
          have s18 := s18.more 9 (y := .bp (lookG t x) 48 (toC ⟨x, (crOf mm x).what, (crOf mm x).home, kidsOf mm x, th⟩ (kv (lookG t x))) 0) (at_obj hBo (s18.get 9 rfl))
          refine flowCIn mixed (fun ⟨_, _, h⟩ => h) (by kernel_rfl) (s18.keep (sc 0 rfl (sc 4 rfl (sc 5 rfl (sc 6 rfl (sc 7 rfl (sc 8 rfl (sc 9 rfl (sc 10 rfl (sc 57 rfl (sc 58 rfl (sc 59 rfl sn)))))))))))) (by kernel_rfl) (by kernel_rfl) (cc rfl (p_move g0 (od rfl id))
              (cc rfl (p_move g0 (od rfl id))
              (cc rfl (p_nilB g0 (od rfl id))
              (cc rfl (p_faB fa_48_9 g0 (od rfl id))
              (cc rfl (p_ldB ld_29 rfl g0 (od rfl id))
              (cc rfl (p_lenW (own_slice (hT.ob _ _ hob).row) ln_29 g0 (od rfl id))
              (cc rfl (p_bin g0 (od rfl id) (od rfl id) b_neq_3) cn))))))) fun a27 w27 b27 s27 => ?_
          have z27 := z18.below b27
          have hT := hT.below b27
          have hM := hM.below b27
          have hu := own_below hu b27
          have hB4 := hB4.below b27 hB4.lt
          have hB5 := hB5.below b27 hB5.lt
          have hB6 := hB6.below b27 hB6.lt
          have hB7 := hB7.below b27 hB7.lt
          have hB8 := hB8.below b27 hB8.lt
          have hBo := hBo.below b27 hBo.lt
          have zr := zr.below b27
          have s27 := s27.more 9 (y := .val (ptrV (lookG t x))) (s27.get 9 rfl).1
          refine s27.condIn 107 rfl (fun h => absurd h (by simp)) fun _ => ?_
          refine wpIn_skip ?_
          exact ⟨⟨zr.block _ (by omega) (by omega), zr.block _ (by omega) (by omega)⟩, KeepE.only (zr.mono fun _ _ h => h), k + 1, x, hpk, by omega, hnext, hB7, hB8, hT, hM, hB4, hB5, hB6, hu, z27⟩
    · -- all
      exact ⟨hSI, hK, s0⟩
  rintro a28 w28 ⟨⟨k, last, hpe, hk, hlast, hB7, hB8, hT, hM, hB4, hB5, hB6, hu, z28⟩, hK, s28⟩
  have hkn : k = ns.length := by have h1 := congrArg List.length hpe; rw [List.length_take, List.length_map] at h1; omega
  subst hkn
  have hDw : w.heap.size ≤ w8.heap.size := hsz
  refine wp_seq ?_
  have s28 := s28.more 0 (y := .tab gT gM 104 t.vals) (at_tab hT (s28.get 0 rfl))
  have s28 := s28.more 4 (y := .tab g4 gm 92 (mV mm)) (⟨(s28.get 4 rfl), hB4, hM, fun _ h => h, fun _ h => h⟩)
  have s28 := s28.more 8 (y := .bp g8 3 #[.int .i64 (ns.length : Int)] 0) (at_obj hB8 (s28.get 8 rfl))
  refine flowR 10 mixed (s28.keep (sc 0 rfl (sc 4 rfl (sc 5 rfl (sc 6 rfl (sc 7 rfl (sc 8 rfl sn))))))) (by kernel_rfl) (by kernel_rfl) (cc rfl (p_ldB ld_3 rfl g0 (od rfl id))
      (cc rfl (p_ldT ld_92 g0 (od rfl id))
      (cc rfl (p_lenMO Try.underlying92 g0 (od rfl id))
      (cc rfl (p_bin g0 (od rfl id) (od rfl id) b_eql_3)
      (cc rfl (p_move g0 (od rfl id))
      (cc rfl (p_move (g1 rfl rfl) (od rfl (fun _ => rfl)))
      (cc rfl (p_call 18 (g1 rfl rfl) (ox (od rfl id) ox0) (fun _ _ => by kernel_rfl) fLen)
      (cc rfl (p_ldB ld_3 rfl (g1 rfl rfl) (od rfl (fun _ => rfl)))
      (cc rfl (p_bin (g1 rfl rfl) (od rfl id) (od rfl id) b_eql_3)
      (cc rfl (p_and g0 (od rfl id) (od rfl id)) cn)))))))))) fun a29 w29 b29 s29 => ?_
  have z29 := z28.below b29
  have hK := dk_below hK b29
  have hT := hT.below b29
  have hM := hM.below b29
  have hB4 := hB4.below b29 hB4.lt
  have hB8 := hB8.below b29 hB8.lt
  have hB6 := hB6.below b29 hB6.lt
  show wpList _ _ _ (_ :: _) _ _
  have s29 := s29.more 117 (y := .bool true) (bool_as (s29.get 117 rfl) (by rw [hnl, mV_len, hI.len]; simp))
  refine cells_on (vs := [.bool true]) s29 rfl rfl rfl (s29.get 6 rfl) (s29.get 117 rfl) rfl hB6 (by simp) sz_4' (fun u hu => by rw [List.mem_singleton.1 hu]; rfl) (vv 6 rfl vn) fun a30 w30 hq30 gS s30 => ?_
  have hK := dk_grown hK gS (fun e => dk_blk hK hB6 (by injection e))
  have hB6 : Blk w30 g6 4 #[.bool true] := hq30
  have z30 := z29.grown gS (fun x hx e => absurd hg6 (Nat.not_le.2 (by injection e with e; rw [e]; exact hx)))
  refine wpList_done ?_
  exact wp_ret (ret_cM1 (fn := Try.f35) (R := fun v w' => v = .bool true ∧ Below w.heap.size w w') (v := .bool true) s30 6 rfl rfl lv_4 hB6 hK fun w' G => ⟨rfl, (z30.grown G (fun x hx e => absurd hDw (Nat.not_le.2 (by injection e with e; rw [e]; exact hx)))).to_below (fun _ _ h => h) (Nat.le_refl _)⟩)

end Go.Proofs.Ytbeeiecbbmiojaa.Y
