/- The law SlotsAlike: for every input the call returns true: where a clock is hangs on its ticks alone, not on whose turn it was. No condition. -/
import Derived.Test.YtbohhabnejmemaaSlotsRuns
namespace Go.Proofs.Ytbohhabnejmemaa
open Go.RowKit Go.ChangeShapes Go.WideShapes

def ARel (w : World) (ga gb : Nat) (A : Option Addr) (sl : List (Int × Int)) (k : Nat) (j : Nat) (wr : World) : Prop :=
  ∃ (s : Nat) (left now : Int) (T U : List Int), s < sl.length ∧ 1 ≤ left ∧ left ≤ 16 ∧ 0 ≤ now ∧ now ≤ k ∧ T.length = 8 ∧ U.length = 8 ∧ (∀ x ∈ T, 0 ≤ x ∧ x ≤ 10 * k + j) ∧ (∀ x ∈ U, 0 ≤ x ∧ x ≤ 10 * k + j) ∧
    Blk wr ga 29 (clk s left now T) ∧ Blk wr gb 29 (clk s left now U) ∧ SlotsAt wr ga A sl ∧ Below w.heap.size w wr

set_option maxRecDepth 100000 in
set_option maxHeartbeats 3200000 in
theorem slotsAlike_walk (A A' : Option Addr) (c c' : Nat) (l turns : List Int) (t : Int) (w : World) (h : IntsAt .i64 w w.heap.size A l) (h' : IntsAt .i64 w w.heap.size A' turns)
    (hm : l.length ≤ 9223372036854775807) (hm' : turns.length ≤ 9223372036854775807) :
    Calls Try.prog 5 #[.slice A l.length c, .int .i64 t, .slice A' turns.length c'] w fun e w' => e = .returned (.bool true) ∧ Below w.heap.size w w' := by
  by_cases hbig : 50 < l.length
  · go_enter Try.func5, Try.ntmps5
    go_wp2_with (go_at_call 10; refine (fit17 _).mono ?_; rintro e w1 ⟨rfl, hb1⟩)
    go_ret
    exact ⟨rfl, hb1⟩
  by_cases hbig' : 200 < turns.length
  · go_enter Try.func5, Try.ntmps5
    go_wp2_with (go_at_call 10; refine (fit17 _).mono ?_; rintro e w1 ⟨rfl, hb1⟩)
    go_ret
    exact ⟨rfl, hb1⟩
  have q255 := i64_and255 t
  have t0 := Int.emod_nonneg t (show (256 : Int) ≠ 0 by omega)
  have t1 := Int.emod_lt_of_pos t (show (0 : Int) < 256 by omega)
  obtain ⟨N, hN⟩ : ∃ N : Nat, t % 256 = (N : Int) := ⟨(t % 256).toNat, by omega⟩
  rw [hN] at q255 t1
  clear t0 hN
  go_enter Try.func5, Try.ntmps5
  go_wp2_with (go_at_call 10; refine (fit17 _).mono ?_; rintro e w1 ⟨rfl, hb1⟩)
  refine (table_any A c l _ ((h.below hb1).more hb1.size) (by omega)).mono ?_
  rintro e w2 ⟨v, n, rfl, hown, hb2⟩
  obtain ⟨As, cs, rfl, hs⟩ := slotsAt_own hown
  have hb2' := hb1.trans (hb2.mono hb1.size)
  obtain ⟨hl1, hl8⟩ := tableL_len l
  have hat := tableL_at l
  clear hown hb2
  generalize tableL l = sl at *
  have hat0 := hat 0 (by omega)
  go_wp2_with fail
  refine (new_any _ _ sl _ hs (by omega)).mono ?_
  rintro e w3 ⟨rfl, hb3⟩
  have hs3 := (hs.below hb3).more hb3.size
  have hb3' := hb2'.trans (hb3.mono hb2'.size)
  clear hs hb3 hb1 hb2'
  go_wp2_with fail
  refine (new_any _ _ sl _ hs3 (by omega)).mono ?_
  rintro e w4 ⟨rfl, hb4⟩
  have hs4 := (hs3.below hb4).more hb4.size
  have hb4' := hb3'.trans (hb4.mono hb3'.size)
  clear hs3 hb4 hb3'
  go_wp2_with fail
  have ka : Blk ((w4.alloc (.cells (clk (0 : Nat) sl[0].2 0 [0, 0, 0, 0, 0, 0, 0, 0]) 29)).alloc (.cells (clk (0 : Nat) sl[0].2 0 [0, 0, 0, 0, 0, 0, 0, 0]) 29)) w4.heap.size 29 (clk (0 : Nat) sl[0].2 0 [0, 0, 0, 0, 0, 0, 0, 0]) := (Blk.new w4 29 _).alloc _
  have kb : Blk ((w4.alloc (.cells (clk (0 : Nat) sl[0].2 0 [0, 0, 0, 0, 0, 0, 0, 0]) 29)).alloc (.cells (clk (0 : Nat) sl[0].2 0 [0, 0, 0, 0, 0, 0, 0, 0]) 29)) (w4.heap.size + 1) 29 (clk (0 : Nat) sl[0].2 0 [0, 0, 0, 0, 0, 0, 0, 0]) := by
    have := Blk.new (w4.alloc (.cells (clk (0 : Nat) sl[0].2 0 [0, 0, 0, 0, 0, 0, 0, 0]) 29)) 29 (clk (0 : Nat) sl[0].2 0 [0, 0, 0, 0, 0, 0, 0, 0])
    rwa [World.size_alloc] at this
  have s5 := hs4.keep (w' := (w4.alloc (.cells (clk (0 : Nat) sl[0].2 0 [0, 0, 0, 0, 0, 0, 0, 0]) 29)).alloc (.cells (clk (0 : Nat) sl[0].2 0 [0, 0, 0, 0, 0, 0, 0, 0]) 29))
    (fun p hp => (World.cell?_alloc_lt _ _ _ (by simp; omega)).trans (World.cell?_alloc_lt _ _ _ hp))
  have b5 := (hb4'.alloc hb4'.size (.cells (clk (0 : Nat) sl[0].2 0 [0, 0, 0, 0, 0, 0, 0, 0]) 29)).alloc (Nat.le_trans hb4'.size (by simp)) (.cells (clk (0 : Nat) sl[0].2 0 [0, 0, 0, 0, 0, 0, 0, 0]) 29)
  have hga : w.heap.size ≤ w4.heap.size := hb4'.size
  simp only [clk, List.map_cons, List.map_nil] at ka kb s5 b5
  generalize (w4.alloc _).alloc _ = w5 at *
  generalize w4.heap.size = ga at *
  clear hs4 hb4'
  go_loopw [30] (fun vi wr => ∃ k : Nat, k ≤ N ∧ vi = .int .i64 k ∧ ARel w ga (ga + 1) As sl k 0 wr) (fun i _ => N - (intOf i).toNat)
  case atStart => exact ⟨0, Nat.zero_le _, rfl, 0, sl[0].2, 0, [0, 0, 0, 0, 0, 0, 0, 0], [0, 0, 0, 0, 0, 0, 0, 0], by omega, hat0.1, hat0.2, by omega, by omega, rfl, rfl, by decide, by decide, ka, kb, s5, b5⟩
  case round =>
    obtain ⟨k, hk, rfl, hR⟩ := hrel
    clear ka kb s5 b5
    obtain ⟨wo, rfl⟩ : ∃ wo : World, wo = wr := ⟨_, rfl⟩
    by_cases hlt : k < N
    · by_cases hkt : k < turns.length
      · have HR := Lib.hid hR
        obtain ⟨_, _, _, _, _, _, _, _, _, _, _, _, _, _, _, _, _, bw⟩ := hR
        obtain ⟨b2, off2, rfl, hbB, hc⟩ := h' (by omega)
        have ea := (bw.cell (p := ⟨b2, off2 + k, none⟩) hbB).trans (hc k hkt)
        clear hc h' bw
        generalize turns[k] = x at *
        have q7 := i64_and7 x
        have m0 := Int.emod_nonneg x (show (8 : Int) ≠ 0 by omega)
        have m1 := Int.emod_lt_of_pos x (show (0 : Int) < 8 by omega)
        obtain ⟨M, hM⟩ : ∃ M : Nat, x % 8 = (M : Int) := ⟨(x % 8).toNat, by omega⟩
        rw [hM] at q7 m1
        clear m0 hM
        go_wp2
        go_loopw [42] (fun vj wr => ∃ j : Nat, j ≤ M ∧ vj = .int .i64 j ∧ ARel w ga (ga + 1) As sl k j wr) (fun i _ => M - (intOf i).toNat)
        case atStart => exact ⟨0, Nat.zero_le _, rfl, HR.out⟩
        case round =>
          obtain ⟨j, hj, rfl, hR⟩ := hrel
          clear HR ea
          by_cases hjt : j < M
          · obtain ⟨s, left, now, T, U, hs, hl, hl', hn, hn', hT, hU, hTr, hUr, ka, kb, sa, bw⟩ := hR
            have hUs : s < U.length := by omega
            have ub := hUr _ (List.getElem_mem hUs)
            have HUS : Hid (U[s]? = some U[s]) := List.getElem?_eq_getElem hUs
            have HU := Lib.hid hU
            have HT := Lib.hid hT
            clear hU hT
            generalize U[s] = us at *
            go_wp2_with (go_at_call 14; refine (next_any _ s left now U us _ kb HUS.out (by omega) (by omega) (by omega)).mono ?_; rintro e w6 ⟨rfl, k6, g6⟩)
            go_roundw
            case rel => exact ⟨j + 1, by omega, by go_num, s, left, now, T, U.set s (us + 1), hs, hl, hl', hn, hn', HT.out, by rw [List.length_set]; exact HU.out, fun z hz => by have := hTr z hz; omega,
              fun z hz => by rcases List.mem_or_eq_of_mem_set hz with h | rfl <;> first | (have := hUr z h; omega) | omega,
              ka.grown g6 (by simp), k6, sa.keep (fun p hp => World.cell?_of_block (g6.block p.block (Nat.lt_trans hp ka.lt) (by simp; omega))), below_of_only bw g6 (by omega) bw.size⟩
            case measure => simp [intOf]; omega
          · obtain ⟨s, left, now, T, U, hs, hl, hl', hn, hn', hT, hU, hTr, hUr, ka, kb, sa, bw⟩ := hR
            have HU := Lib.hid hU
            have HT := Lib.hid hT
            clear hU hT
            by_cases hl1' : left = 1
            · subst hl1'
              obtain ⟨k', hk', hmod⟩ : ∃ k', k' < sl.length ∧ Hid ((s + 1) % sl.length = k') := ⟨_, Nat.mod_lt _ (by omega), rfl⟩
              go_wp2_with fail
              refine (tick_next _ _ _ sl s k' now T _ ka sa hs (by omega) (by omega) (by omega) hk' hmod.out).mono ?_; rintro e w6 ⟨rfl, k6, g6⟩
              have kb6 := kb.grown g6 (by simp)
              have sa6 := sa.keep (w' := w6) (fun p hp => World.cell?_of_block (g6.block p.block (Nat.lt_trans hp ka.lt) (by simp; omega)))
              have bw6 := below_of_only bw g6 (by omega) bw.size
              clear ka kb sa bw g6
              go_wp2_with fail
              refine (tick_next _ _ _ sl s k' now U _ kb6 (sa6.more (by omega)) hs (by omega) (by omega) (by omega) hk' hmod.out).mono ?_; rintro e w7 ⟨rfl, k7, g7⟩
              go_wp2_with fail
              go_roundw
              case rel => exact ⟨k + 1, by omega, by go_num, k', sl[k'].2, now + 1, T, U, hk', (hat k' hk').1, (hat k' hk').2, by omega, by omega, HT.out, HU.out, fun z hz => by have := hTr z hz; omega, fun z hz => by have := hUr z hz; omega,
                k6.grown g7 (by simp), k7, sa6.keep (fun p hp => World.cell?_of_block (g7.block p.block (Nat.lt_trans hp k6.lt) (by simp; omega))), below_of_only bw6 g7 (by omega) bw6.size⟩
              case measure => simp [intOf]; omega
            · go_wp2_with fail
              refine (tick_on _ _ _ sl s left now T _ ka (by omega) (by omega) (by omega) (by omega)).mono ?_; rintro e w6 ⟨rfl, k6, g6⟩
              have kb6 := kb.grown g6 (by simp)
              have sa6 := sa.keep (w' := w6) (fun p hp => World.cell?_of_block (g6.block p.block (Nat.lt_trans hp ka.lt) (by simp; omega)))
              have bw6 := below_of_only bw g6 (by omega) bw.size
              clear ka kb sa bw g6
              go_wp2_with fail
              refine (tick_on _ _ _ sl s left now U _ kb6 (by omega) (by omega) (by omega) (by omega)).mono ?_; rintro e w7 ⟨rfl, k7, g7⟩
              go_wp2_with fail
              go_roundw
              case rel => exact ⟨k + 1, by omega, by go_num, s, left - 1, now + 1, T, U, hs, by omega, by omega, by omega, by omega, HT.out, HU.out, fun z hz => by have := hTr z hz; omega, fun z hz => by have := hUr z hz; omega,
                k6.grown g7 (by simp), k7, sa6.keep (fun p hp => World.cell?_of_block (g7.block p.block (Nat.lt_trans hp k6.lt) (by simp; omega))), below_of_only bw6 g7 (by omega) bw6.size⟩
              case measure => simp [intOf]; omega
      · obtain ⟨s, left, now, T, U, hs, hl, hl', hn, hn', hT, hU, hTr, hUr, ka, kb, sa, bw⟩ := hR
        have HU := Lib.hid hU
        have HT := Lib.hid hT
        clear hU hT
        by_cases hl1' : left = 1
        · subst hl1'
          obtain ⟨k', hk', hmod⟩ : ∃ k', k' < sl.length ∧ Hid ((s + 1) % sl.length = k') := ⟨_, Nat.mod_lt _ (by omega), rfl⟩
          go_wp2_with fail
          refine (tick_next _ _ _ sl s k' now T _ ka sa hs (by omega) (by omega) (by omega) hk' hmod.out).mono ?_; rintro e w6 ⟨rfl, k6, g6⟩
          have kb6 := kb.grown g6 (by simp)
          have sa6 := sa.keep (w' := w6) (fun p hp => World.cell?_of_block (g6.block p.block (Nat.lt_trans hp ka.lt) (by simp; omega)))
          have bw6 := below_of_only bw g6 (by omega) bw.size
          clear ka kb sa bw g6
          go_wp2_with fail
          refine (tick_next _ _ _ sl s k' now U _ kb6 (sa6.more (by omega)) hs (by omega) (by omega) (by omega) hk' hmod.out).mono ?_; rintro e w7 ⟨rfl, k7, g7⟩
          go_wp2_with fail
          go_roundw
          case rel => exact ⟨k + 1, by omega, by go_num, k', sl[k'].2, now + 1, T, U, hk', (hat k' hk').1, (hat k' hk').2, by omega, by omega, HT.out, HU.out, fun z hz => by have := hTr z hz; omega, fun z hz => by have := hUr z hz; omega,
            k6.grown g7 (by simp), k7, sa6.keep (fun p hp => World.cell?_of_block (g7.block p.block (Nat.lt_trans hp k6.lt) (by simp; omega))), below_of_only bw6 g7 (by omega) bw6.size⟩
          case measure => simp [intOf]; omega
        · go_wp2_with fail
          refine (tick_on _ _ _ sl s left now T _ ka (by omega) (by omega) (by omega) (by omega)).mono ?_; rintro e w6 ⟨rfl, k6, g6⟩
          have kb6 := kb.grown g6 (by simp)
          have sa6 := sa.keep (w' := w6) (fun p hp => World.cell?_of_block (g6.block p.block (Nat.lt_trans hp ka.lt) (by simp; omega)))
          have bw6 := below_of_only bw g6 (by omega) bw.size
          clear ka kb sa bw g6
          go_wp2_with fail
          refine (tick_on _ _ _ sl s left now U _ kb6 (by omega) (by omega) (by omega) (by omega)).mono ?_; rintro e w7 ⟨rfl, k7, g7⟩
          go_wp2_with fail
          go_roundw
          case rel => exact ⟨k + 1, by omega, by go_num, s, left - 1, now + 1, T, U, hs, by omega, by omega, by omega, by omega, HT.out, HU.out, fun z hz => by have := hTr z hz; omega, fun z hz => by have := hUr z hz; omega,
            k6.grown g7 (by simp), k7, sa6.keep (fun p hp => World.cell?_of_block (g7.block p.block (Nat.lt_trans hp k6.lt) (by simp; omega))), below_of_only bw6 g7 (by omega) bw6.size⟩
          case measure => simp [intOf]; omega
    · obtain ⟨s, left, now, T, U, hs, hl, hl', hn, hn', hT, hU, hTr, hUr, ka, kb, sa, bw⟩ := hR
      have hTs : s < T.length := by omega
      have hUs : s < U.length := by omega
      have tb := hTr _ (List.getElem_mem hTs)
      have ub := hUr _ (List.getElem_mem hUs)
      have HTS : Hid (T[s]? = some T[s]) := List.getElem?_eq_getElem hTs
      have HUS : Hid (U[s]? = some U[s]) := List.getElem?_eq_getElem hUs
      clear hT hU
      generalize T[s] = ts at *
      generalize U[s] = us at *
      go_wp2_with fail
      refine (slot_any _ _ _ _ _ _ ka).mono ?_; rintro e w' ⟨rfl, rfl⟩
      go_wp2_with fail
      refine (slot_any _ _ _ _ _ _ kb).mono ?_; rintro e w' ⟨rfl, rfl⟩
      go_wp2_with fail
      refine (now_any _ _ _ _ _ _ ka).mono ?_; rintro e w' ⟨rfl, rfl⟩
      go_wp2_with fail
      refine (now_any _ _ _ _ _ _ kb).mono ?_; rintro e w' ⟨rfl, rfl⟩
      go_wp2_with fail
      refine (turn_some _ s _ _ T 1 _ _ ka HTS.out (by omega) (by omega) (by omega) (by omega) (by omega)).mono ?_; rintro e w' ⟨rfl, n1, rfl⟩
      go_wp2_with fail
      refine (turn_some _ s _ _ U 1 _ _ (kb.drewN n1) HUS.out (by omega) (by omega) (by omega) (by omega) (by omega)).mono ?_; rintro e w' ⟨rfl, n2, rfl⟩
      go_wp2_with fail
      go_ret
      exact ⟨rfl, below_drewN bw _⟩

set_option maxRecDepth 100000 in
theorem slotsAlike_lifted (os : Os) (started : os.Started) (H : Type) (enc : TypeId × Value → H) :
    ReturnsInHanded {} Try.checked os 5 .any (Rows.slotsAlikeSpec.pre6 enc Try.prog Try.f5 Rows.slotsAlikeRow.domain false) (Rows.slotsAlikeSpec.post enc Try.prog Try.f5 false true false false) := by
  refine lifted_of (C := Try.checked) laidOut own started (by kernel_rfl) Try.func5 rfl Try.underlying4 (by kernel_rfl) rfl
    (fun ds hds => by match ds, hds with | [_, _, _], _ => rfl)
    (ChangeSpec.witness6 (enc := enc) (C := Try.checked) false ⟨#[], #[.slice none 0 0, .int .i64 0, .slice none 0 0], []⟩ 8 (by kernel_rfl) (by kernel_rfl) (by kernel_rfl) (by kernel_rfl)) ?_
  intro W base args ds ps hval0 hA0 hlt
  have hval : ∀ (j : Nat) t v, Try.f5.params[j]? = some t → args[j]? = some v → Value.okWide Try.prog W .any base t v := hval0
  have hA : DataW.TrodAll enc Try.prog W 0 (fun _ => true) true Try.f5.params.toList args.toList ds ps := hA0
  rw [Try.params5] at hA hval
  obtain ⟨v0, vs0, d0, ds0, p0, q0, hargs, rfl, rfl, h0, r0⟩ := trodAll_cons hA
  obtain ⟨v1, vs1, d1, ds1, p1, q1, rfl, rfl, rfl, h1, r1⟩ := trodAll_cons r0
  obtain ⟨v2, vs2, d2, ds2, p2, q2, rfl, rfl, rfl, h2, r2⟩ := trodAll_cons r1
  obtain ⟨rfl, rfl, rfl⟩ := trodAll_nil r2
  obtain rfl : args = #[v0, v1, v2] := by cases args; simp_all
  obtain ⟨A0, l0, c0, rfl, hm0, hi0, hw0⟩ := open_intsV Try.underlying22 Try.underlying3 (by kernel_rfl) (hval 0 22 v0 rfl rfl) h0 (fun x hx => hlt x (List.mem_append_left _ hx))
  obtain ⟨x1, rfl, rfl, rfl, w1⟩ := open_int Try.underlying3 (hval 1 3 v1 rfl rfl) h1
  obtain ⟨A2, l2, c2, rfl, hm2, hi2, hw2⟩ := open_intsV Try.underlying22 Try.underlying3 (by kernel_rfl) (hval 2 22 v2 rfl rfl) h2 (fun x hx => hlt x (List.mem_append_right _ (List.mem_append_right _ (List.mem_append_left _ hx))))
  exact slotsAlike_walk A0 A2 c0 c2 l0 l2 x1 W hi0 hi2 (by unfold maxLen at hm0; omega) (by unfold maxLen at hm2; omega)

theorem slotsAlike_holds : Rows.SlotsAlikeSaid :=
  OpenClaim.holds_of_wide 5 Try.f5 rfl rfl rfl rfl rfl rfl rfl ⟨rfl, rfl, rfl, rfl, rfl⟩ rfl rfl rfl rfl rfl (by kernel_rfl) Try.func5 (by kernel_rfl)
    (of_decide_eq_true (by kernel_rfl)) (by unfold Func.isWrapper; rw [if_neg (of_decide_eq_false (by kernel_rfl))]; exact ⟨rfl, rfl⟩)
    (fun os started H enc _ => slotsAlike_lifted os started H enc)

#print axioms slotsAlike_holds
end Go.Proofs.Ytbohhabnejmemaa
