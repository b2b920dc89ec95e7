/- The law SlotsRuns: for every input the call returns true: tick by tick a clock goes round the table, turn by turn round those who share a slot. No condition. -/
import Derived.Test.YtbohhabnejmemaaTable
namespace Go.Proofs.Ytbohhabnejmemaa
open Go.RowKit Go.ChangeShapes Go.WideShapes

theorem tableL_len (l : List Int) : 1 ≤ (tableL l).length ∧ (tableL l).length ≤ 8 := by
  unfold tableL
  split
  · simp
  · rename_i h
    have : 0 < l.length := List.length_pos_iff.2 h
    simp; omega
theorem tableL_at (l : List Int) (k : Nat) (hk : k < (tableL l).length) : 1 ≤ (tableL l)[k].2 ∧ (tableL l)[k].2 ≤ 16 := by
  have : ∀ x ∈ tableL l, 1 ≤ x.2 ∧ x.2 ≤ 16 := by
    intro x hx
    unfold tableL at hx
    split at hx
    · simp at hx; subst hx; simp
    · simp only [List.mem_map] at hx
      obtain ⟨a, _, rfl⟩ := hx
      simp only [slotOf]
      omega
  exact this _ (List.getElem_mem hk)

theorem slotsAt_own {w : World} {base : Nat} {v : Value} {n : Nat} {l : List (Int × Int)} (h : w.ownsRow base 32 2 v n (slotCells l)) : ∃ A c, v = .slice A l.length c ∧ SlotsAt w w.heap.size A l := by
  have hn : n = l.length := by have := h.1; rw [slotCells_len] at this; omega
  subst hn
  rcases h.2 with ⟨rfl, h0⟩ | ⟨g, cap, cur, rfl, hb, hg, hnc, hcm, hcs, htk⟩
  · exact ⟨none, 0, by rw [h0], fun hl => absurd hl (by omega)⟩
  · exact ⟨_, cap, rfl, SlotsAt.of_blk (cs := cur) l hg htk (Blk.lt hg)⟩

/-- The cells of the law's own counts of turns. -/
def tns (T : List Int) : Array Value := (T.map (Value.int .i64)).toArray
theorem tns_at (T : List Int) (k : Nat) (h : k < T.length) : (tns T)[k]? = some (.int .i64 T[k]) := by simp [tns, h]
theorem Blk.tns {w : World} {g : Nat} {T : List Int} (h : Blk w g 33 (tns T)) (k : Nat) (x : Int) : Blk (w.setCell ⟨g, k, none⟩ (.int .i64 x)) g 33 (Ytbohhabnejmemaa.tns (T.set k x)) := by
  have q := h.set_ k (.int .i64 x)
  have e : (Ytbohhabnejmemaa.tns T).setIfInBounds k (.int .i64 x) = Ytbohhabnejmemaa.tns (T.set k x) := by simp [Ytbohhabnejmemaa.tns, List.map_set]
  rwa [e] at q

def RRel (w : World) (gc gt : Nat) (A : Option Addr) (sl : List (Int × Int)) (len : Nat) (vs vl vn vi : Value) (wr : World) : Prop :=
  ∃ (k s : Nat) (left now : Int) (T : List Int), k ≤ len ∧ s < sl.length ∧ 1 ≤ left ∧ left ≤ 16 ∧ 0 ≤ now ∧ now ≤ k ∧ T.length = 8 ∧ (∀ x ∈ T, 0 ≤ x ∧ x ≤ k) ∧
    vs = .int .i64 s ∧ vl = .int .i64 left ∧ vn = .int .u64 now ∧ vi = .int .i64 k ∧ Blk wr gc 29 (clk s left now T) ∧ Blk wr gt 33 (tns T) ∧ SlotsAt wr gc A sl ∧ Below w.heap.size w wr

set_option maxRecDepth 100000 in
set_option maxHeartbeats 3200000 in
theorem slotsRuns_walk (A A' : Option Addr) (c c' : Nat) (l acts : List Int) (w : World) (h : IntsAt .i64 w w.heap.size A l) (h' : IntsAt .i64 w w.heap.size A' acts)
    (hm : l.length ≤ 9223372036854775807) (hm' : acts.length ≤ 9223372036854775807) :
    Calls Try.prog 3 #[.slice A l.length c, .slice A' acts.length c'] w fun e w' => e = .returned (.bool true) ∧ Below w.heap.size w w' := by
  by_cases hbig' : 500 < acts.length
  · go_enter Try.func3, Try.ntmps3
    go_wp2_with (go_at_call 10; refine (fit17 _).mono ?_; rintro e w1 ⟨rfl, hb1⟩)
    go_ret
    exact ⟨rfl, hb1⟩
  by_cases hbig : 50 < l.length
  · go_enter Try.func3, Try.ntmps3
    go_wp2_with (go_at_call 10; refine (fit17 _).mono ?_; rintro e w1 ⟨rfl, hb1⟩)
    go_ret
    exact ⟨rfl, hb1⟩
  go_enter Try.func3, Try.ntmps3
  go_wp2_with (go_at_call 10; refine (fit17 _).mono ?_; rintro e w1 ⟨rfl, hb1⟩)
  refine (table_any A c l _ ((h.below hb1).more hb1.size) (by omega)).mono ?_
  rintro e w2 ⟨v, n, rfl, hown, hb2⟩
  obtain ⟨As, cs, rfl, hs⟩ := slotsAt_own hown
  have hb2' := hb1.trans (hb2.mono hb1.size)
  obtain ⟨hl1, hl8⟩ := tableL_len l
  have hat := tableL_at l
  clear hown hb2
  generalize tableL l = sl at *
  have hat0 := hat 0 (by omega)
  go_wp2_with (go_at_call 12; refine (new_any _ _ sl _ hs (by omega)).mono ?_; rintro e w3 ⟨rfl, hb3⟩)
  have z3 := hb3.size
  have s4 := ((hs.below hb3).more z3).keep (w' := w3.alloc (.cells (clk (0 : Nat) sl[0].2 0 [0, 0, 0, 0, 0, 0, 0, 0]) 29)) (fun p hp => World.cell?_alloc_lt _ _ _ hp)
  have k4 := Blk.new w3 29 (clk (0 : Nat) sl[0].2 0 [0, 0, 0, 0, 0, 0, 0, 0])
  have b4 := (hb2'.trans (hb3.mono hb2'.size)).alloc (Nat.le_trans hb2'.size z3) (.cells (clk (0 : Nat) sl[0].2 0 [0, 0, 0, 0, 0, 0, 0, 0]) 29)
  have hgc : w.heap.size ≤ w3.heap.size := Nat.le_trans hb2'.size z3
  simp only [clk, List.map_cons, List.map_nil] at s4 k4 b4
  generalize w3.heap.size = gc at *
  generalize w3.alloc _ = w4 at *
  have e0 : ∃ b off, As = some ⟨b, off, none⟩ ∧ w4.cell? ⟨b, off + 1, none⟩ = some (.int .i64 sl[0].2) := by
    obtain ⟨b, off, e, hb, hc⟩ := s4 (by omega)
    have := (hc 0 (by omega)).2
    simp at this
    exact ⟨b, off, e, this⟩
  obtain ⟨b, off, rfl, e0⟩ := e0
  clear hs hb3 hb2' hb1 z3
  go_quiet (fail)
  go_wp2
  have k5 : Blk ((w4.drewN nq).alloc (.cells #[.int .i64 0, .int .i64 0, .int .i64 0, .int .i64 0, .int .i64 0, .int .i64 0, .int .i64 0, .int .i64 0] 33)) gc 29 (clk (0 : Nat) sl[0].2 0 [0, 0, 0, 0, 0, 0, 0, 0]) := (Blk.drewN k4 nq).alloc _
  have t5 := Blk.new (w4.drewN nq) 33 (tns [0, 0, 0, 0, 0, 0, 0, 0])
  have s5 := s4.keep (w' := (w4.drewN nq).alloc (.cells (tns [0, 0, 0, 0, 0, 0, 0, 0]) 33)) (fun p hp => World.cell?_alloc_lt _ _ _ (Nat.lt_trans hp k4.lt))
  have b5 := (below_drewN b4 nq).alloc b4.size (.cells (tns [0, 0, 0, 0, 0, 0, 0, 0]) 33)
  have hgt : gc < w4.heap.size := k4.lt
  simp only [tns, List.map_cons, List.map_nil] at t5 s5 b5
  generalize hw5 : (w4.drewN nq).alloc _ = w5 at *
  have hgt' : (w4.drewN nq).heap.size = w4.heap.size := rfl
  rw [hgt'] at t5
  generalize w4.heap.size = gt at *
  clear hw5 hgt' k4 s4 b4 e0
  go_loopw [7, 8, 9, 36] (fun vs vl vn vi wr => RRel w gc gt (some ⟨b, off, none⟩) sl acts.length vs vl vn vi wr) (fun _ _ _ i _ => acts.length - (intOf i).toNat)
  case atStart => exact ⟨0, 0, sl[0].2, 0, [0, 0, 0, 0, 0, 0, 0, 0], Nat.zero_le _, by omega, hat0.1, hat0.2, by omega, by omega, rfl, by decide, rfl, rfl, rfl, rfl, k5, t5, s5, b5⟩
  case round =>
    obtain ⟨k, s, left, now, T, hk, hs, hl, hl', hn, hn', hT, hTr, rfl, rfl, rfl, rfl, kc, kt, sa, bw⟩ := hrel
    clear k5 t5 s5 b5
    by_cases hlt : k < acts.length
    · obtain ⟨b2, off2, rfl, hbB, hc⟩ := h' (by omega)
      have ea := (bw.cell (p := ⟨b2, off2 + k, none⟩) hbB).trans (hc k hlt)
      clear hc h'
      generalize acts[k] = x at *
      have q1 := i64_and1 x
      have q7 := i64_and7 (x / 2)
      have x0 := Int.emod_nonneg x (show (2 : Int) ≠ 0 by omega)
      have x1 := Int.emod_lt_of_pos x (show (0 : Int) < 2 by omega)
      have m0 := Int.emod_nonneg (x / 2) (show (8 : Int) ≠ 0 by omega)
      have m1 := Int.emod_lt_of_pos (x / 2) (show (0 : Int) < 8 by omega)
      have hgg : ¬ gt = gc := by omega
      have hTs : s < T.length := by omega
      have tb := hTr _ (List.getElem_mem hTs)
      have et0 := (kt.cell s).trans (tns_at T s hTs)
      have HT := Lib.hid hT
      have HTS : Hid (T[s]? = some T[s]) := List.getElem?_eq_getElem hTs
      have HTS' : Hid ((T.set s (T[s] + 1))[s]? = some (T[s] + 1)) := by show (_ : Option Int) = _; simp [hTs]
      clear hT
      generalize hx2 : x % 2 = y at *
      generalize hx8 : x / 2 % 8 = m at *
      clear hx2 hx8
      generalize hts : T[s] = ts at *
      clear hts
      by_cases hy : y = 0
      · subst hy
        by_cases hl1' : left = 1
        · subst hl1'
          obtain ⟨k', hk', hmod⟩ : ∃ k', k' < sl.length ∧ Hid ((s + 1) % sl.length = k') := ⟨_, Nat.mod_lt _ (by omega), rfl⟩
          have hm : ((s : Int) + 1) % (sl.length : Int) = (k' : Int) := by rw [← hmod.out]; simp
          have hTk : k' < T.length := by have := HT.out; omega
          have HTK : Hid (T[k']? = some T[k']) := List.getElem?_eq_getElem hTk
          have tkb := hTr _ (List.getElem_mem hTk)
          obtain ⟨b3, off3, e3, hb3, hc3⟩ := sa (by omega)
          cases e3
          have e3 := (hc3 _ hk').2
          clear hc3
          have h3t : ¬ b = gt := by omega
          by_cases hm0 : m = 0
          · subst hm0
            go_wp2_with (first
              | (go_at_call 13; refine (tick_next _ _ _ sl s k' now T _ kc sa hs (by omega) (by omega) (by omega) hk' hmod.out).mono ?_; rintro e w6 ⟨rfl, k6, g6⟩; have t6 := kt.grown g6 (by simp; omega); have s6 := sa.keep (w' := w6) (fun p hp => World.cell?_of_block (g6.block p.block (Nat.lt_trans hp kc.lt) (by simp; omega))); have b6 := below_of_only bw g6 hgc bw.size; have et := (t6.cell k').trans (tns_at T k' (by omega)))
              | (go_at_call 15; refine (slot_any _ _ _ _ _ _ k6).mono ?_; rintro e w' ⟨rfl, rfl⟩)
              | (go_at_call 16; refine (now_any _ _ _ _ _ _ k6).mono ?_; rintro e w' ⟨rfl, rfl⟩)
              | (go_at_call 17; refine (turn_none _ _ (by omega) _).mono ?_; rintro e w' ⟨rfl, rfl⟩))
            go_roundw
            case rel => exact ⟨k + 1, k', sl[k'].2, now + 1, T, by omega, hk', (hat k' hk').1, (hat k' hk').2, by omega, by omega, HT.out, fun z hz => by have := hTr z hz; omega, rfl, rfl, rfl, by go_num, k6, t6, s6, b6⟩
            case measure => simp [intOf]; omega
          · 
            go_wp2_with (first
              | (go_at_call 13; refine (tick_next _ _ _ sl s k' now T _ kc sa hs (by omega) (by omega) (by omega) hk' hmod.out).mono ?_; rintro e w6 ⟨rfl, k6, g6⟩; have t6 := kt.grown g6 (by simp; omega); have s6 := sa.keep (w' := w6) (fun p hp => World.cell?_of_block (g6.block p.block (Nat.lt_trans hp kc.lt) (by simp; omega))); have b6 := below_of_only bw g6 hgc bw.size; have et := (t6.cell k').trans (tns_at T k' (by omega)))
              | (go_at_call 15; refine (slot_any _ _ _ _ _ _ k6).mono ?_; rintro e w' ⟨rfl, rfl⟩)
              | (go_at_call 16; refine (now_any _ _ _ _ _ _ k6).mono ?_; rintro e w' ⟨rfl, rfl⟩)
              | (go_at_call 17; refine (turn_none _ _ (by omega) _).mono ?_; rintro e w' ⟨rfl, rfl⟩)
              | (go_at_call 17; refine (turn_some _ k' _ _ T m _ _ k6 HTK.out (by omega) (by omega) (by omega) (by omega) (by omega)).mono ?_; rintro e w' ⟨rfl, nq2, rfl⟩))
            go_roundw
            case rel => exact ⟨k + 1, k', sl[k'].2, now + 1, T, by omega, hk', (hat k' hk').1, (hat k' hk').2, by omega, by omega, HT.out, fun z hz => by have := hTr z hz; omega, rfl, rfl, rfl, by go_num, (Blk.drewN k6 _), (Blk.drewN t6 _), (s6.keep fun _ _ => rfl), (below_drewN b6 _)⟩
            case measure => simp [intOf]; omega
        · have hlf : (left - 1 == 0) = false := by simp; omega
          by_cases hm0 : m = 0
          · subst hm0
            go_wp2_with (first
              | (go_at_call 13; refine (tick_on _ _ _ sl s left now T _ kc (by omega) (by omega) (by omega) (by omega)).mono ?_; rintro e w6 ⟨rfl, k6, g6⟩; have t6 := kt.grown g6 (by simp; omega); have s6 := sa.keep (w' := w6) (fun p hp => World.cell?_of_block (g6.block p.block (Nat.lt_trans hp kc.lt) (by simp; omega))); have b6 := below_of_only bw g6 hgc bw.size; have et := (World.cell?_of_block (g6.block gt kt.lt (by simp; omega))).trans et0)
              | (go_at_call 15; refine (slot_any _ _ _ _ _ _ k6).mono ?_; rintro e w' ⟨rfl, rfl⟩)
              | (go_at_call 16; refine (now_any _ _ _ _ _ _ k6).mono ?_; rintro e w' ⟨rfl, rfl⟩)
              | (go_at_call 17; refine (turn_none _ _ (by omega) _).mono ?_; rintro e w' ⟨rfl, rfl⟩))
            go_roundw
            case rel => exact ⟨k + 1, s, left - 1, now + 1, T, by omega, hs, by omega, by omega, by omega, by omega, HT.out, fun z hz => by have := hTr z hz; omega, rfl, rfl, rfl, by go_num, k6, t6, s6, b6⟩
            case measure => simp [intOf]; omega
          · 
            go_wp2_with (first
              | (go_at_call 13; refine (tick_on _ _ _ sl s left now T _ kc (by omega) (by omega) (by omega) (by omega)).mono ?_; rintro e w6 ⟨rfl, k6, g6⟩; have t6 := kt.grown g6 (by simp; omega); have s6 := sa.keep (w' := w6) (fun p hp => World.cell?_of_block (g6.block p.block (Nat.lt_trans hp kc.lt) (by simp; omega))); have b6 := below_of_only bw g6 hgc bw.size; have et := (World.cell?_of_block (g6.block gt kt.lt (by simp; omega))).trans et0)
              | (go_at_call 15; refine (slot_any _ _ _ _ _ _ k6).mono ?_; rintro e w' ⟨rfl, rfl⟩)
              | (go_at_call 16; refine (now_any _ _ _ _ _ _ k6).mono ?_; rintro e w' ⟨rfl, rfl⟩)
              | (go_at_call 17; refine (turn_none _ _ (by omega) _).mono ?_; rintro e w' ⟨rfl, rfl⟩)
              | (go_at_call 17; refine (turn_some _ s _ _ T m _ _ k6 HTS.out (by omega) (by omega) (by omega) (by omega) (by omega)).mono ?_; rintro e w' ⟨rfl, nq2, rfl⟩))
            go_roundw
            case rel => exact ⟨k + 1, s, left - 1, now + 1, T, by omega, hs, by omega, by omega, by omega, by omega, HT.out, fun z hz => by have := hTr z hz; omega, rfl, rfl, rfl, by go_num, (Blk.drewN k6 _), (Blk.drewN t6 _), (s6.keep fun _ _ => rfl), (below_drewN b6 _)⟩
            case measure => simp [intOf]; omega
      · have hyf : y = 1 := by omega
        subst hyf
        by_cases hm0 : m = 0
        · subst hm0
          go_wp2_with (first
            | (go_at_call 14; refine (next_any _ s left now T ts _ kc HTS.out (by omega) (by omega) (by omega)).mono ?_; rintro e w6 ⟨rfl, k6, g6⟩; have t6 := kt.grown g6 (by simp; omega); have s6 := sa.keep (w' := w6) (fun p hp => World.cell?_of_block (g6.block p.block (Nat.lt_trans hp kc.lt) (by simp; omega))); have b6 := below_of_only bw g6 hgc bw.size; have et := (World.cell?_of_block (g6.block gt kt.lt (by simp; omega))).trans et0; have ft := t6.frozen s)
            | (go_at_call 15; refine (slot_any _ _ _ _ _ _ (k6.far (p := ⟨gt, s, none⟩) (by simp; omega) _)).mono ?_; rintro e w' ⟨rfl, rfl⟩)
            | (go_at_call 16; refine (now_any _ _ _ _ _ _ (k6.far (p := ⟨gt, s, none⟩) (by simp; omega) _)).mono ?_; rintro e w' ⟨rfl, rfl⟩)
            | (go_at_call 17; refine (turn_none _ _ (by omega) _).mono ?_; rintro e w' ⟨rfl, rfl⟩))
          go_roundw
          case rel => exact ⟨k + 1, s, left, now, T.set s (ts + 1), by omega, hs, by omega, by omega, by omega, by omega, by rw [List.length_set]; exact HT.out, fun z hz => by rcases List.mem_or_eq_of_mem_set hz with h | rfl <;> first | (have := hTr z h; omega) | omega, rfl, rfl, rfl, by go_num, (k6.far (p := ⟨gt, s, none⟩) (by simp; omega) _), (t6.tns s _), (s6.keep fun p hp => World.cell?_setCell_other _ _ _ _ (by rintro rfl; simp at hp; omega)), (b6.setCell (p := ⟨gt, s, none⟩) (by simp; omega) _)⟩
          case measure => simp [intOf]; omega
        · 
          go_wp2_with (first
            | (go_at_call 14; refine (next_any _ s left now T ts _ kc HTS.out (by omega) (by omega) (by omega)).mono ?_; rintro e w6 ⟨rfl, k6, g6⟩; have t6 := kt.grown g6 (by simp; omega); have s6 := sa.keep (w' := w6) (fun p hp => World.cell?_of_block (g6.block p.block (Nat.lt_trans hp kc.lt) (by simp; omega))); have b6 := below_of_only bw g6 hgc bw.size; have et := (World.cell?_of_block (g6.block gt kt.lt (by simp; omega))).trans et0; have ft := t6.frozen s)
            | (go_at_call 15; refine (slot_any _ _ _ _ _ _ (k6.far (p := ⟨gt, s, none⟩) (by simp; omega) _)).mono ?_; rintro e w' ⟨rfl, rfl⟩)
            | (go_at_call 16; refine (now_any _ _ _ _ _ _ (k6.far (p := ⟨gt, s, none⟩) (by simp; omega) _)).mono ?_; rintro e w' ⟨rfl, rfl⟩)
            | (go_at_call 17; refine (turn_none _ _ (by omega) _).mono ?_; rintro e w' ⟨rfl, rfl⟩)
            | (go_at_call 17; refine (turn_some _ s _ _ (T.set s (ts + 1)) m _ _ (k6.far (p := ⟨gt, s, none⟩) (by simp; omega) _) HTS'.out (by omega) (by omega) (by omega) (by omega) (by omega)).mono ?_; rintro e w' ⟨rfl, nq2, rfl⟩))
          go_roundw
          case rel => exact ⟨k + 1, s, left, now, T.set s (ts + 1), by omega, hs, by omega, by omega, by omega, by omega, by rw [List.length_set]; exact HT.out, fun z hz => by rcases List.mem_or_eq_of_mem_set hz with h | rfl <;> first | (have := hTr z h; omega) | omega, rfl, rfl, rfl, by go_num, (Blk.drewN (k6.far (p := ⟨gt, s, none⟩) (by simp; omega) _) _), (Blk.drewN (t6.tns s _) _), ((s6.keep fun p hp => World.cell?_setCell_other _ _ _ _ (by rintro rfl; simp at hp; omega)).keep fun _ _ => rfl), (below_drewN (b6.setCell (p := ⟨gt, s, none⟩) (by simp; omega) _) _)⟩
          case measure => simp [intOf]; omega
    · go_wp2
      go_ret
      exact ⟨rfl, bw⟩

set_option maxRecDepth 100000 in
theorem slotsRuns_lifted (os : Os) (started : os.Started) (H : Type) (enc : TypeId × Value → H) :
    ReturnsInHanded {} Try.checked os 3 .any (Rows.slotsRunsSpec.pre6 enc Try.prog Try.f3 Rows.slotsRunsRow.domain false) (Rows.slotsRunsSpec.post enc Try.prog Try.f3 false true false false) := by
  refine lifted_of (C := Try.checked) laidOut own started (by kernel_rfl) Try.func3 rfl Try.underlying4 (by kernel_rfl) rfl
    (fun ds hds => by match ds, hds with | [_, _], _ => rfl)
    (ChangeSpec.witness6 (enc := enc) (C := Try.checked) false ⟨#[], #[.slice none 0 0, .slice none 0 0], []⟩ 8 (by kernel_rfl) (by kernel_rfl) (by kernel_rfl) (by kernel_rfl)) ?_
  intro W base args ds ps hval0 hA0 hlt
  have hval : ∀ (j : Nat) t v, Try.f3.params[j]? = some t → args[j]? = some v → Value.okWide Try.prog W .any base t v := hval0
  have hA : DataW.TrodAll enc Try.prog W 0 (fun _ => true) true Try.f3.params.toList args.toList ds ps := hA0
  rw [Try.params3] at hA hval
  obtain ⟨v0, vs0, d0, ds0, p0, q0, hargs, rfl, rfl, h0, r0⟩ := trodAll_cons hA
  obtain ⟨v1, vs1, d1, ds1, p1, q1, rfl, rfl, rfl, h1, r1⟩ := trodAll_cons r0
  obtain ⟨rfl, rfl, rfl⟩ := trodAll_nil r1
  obtain rfl : args = #[v0, v1] := by cases args; simp_all
  obtain ⟨A0, l0, c0, rfl, hm0, hi0, hw0⟩ := open_intsV Try.underlying22 Try.underlying3 (by kernel_rfl) (hval 0 22 v0 rfl rfl) h0 (fun x hx => hlt x (List.mem_append_left _ hx))
  obtain ⟨A1, l1, c1, rfl, hm1, hi1, hw1⟩ := open_intsV Try.underlying22 Try.underlying3 (by kernel_rfl) (hval 1 22 v1 rfl rfl) h1 (fun x hx => hlt x (List.mem_append_right _ (List.mem_append_left _ hx)))
  exact slotsRuns_walk A0 A1 c0 c1 l0 l1 W hi0 hi1 (by unfold maxLen at hm0; omega) (by unfold maxLen at hm1; omega)

theorem slotsRuns_holds : Rows.SlotsRunsSaid :=
  OpenClaim.holds_of_wide 3 Try.f3 rfl rfl rfl rfl rfl rfl rfl ⟨rfl, rfl, rfl, rfl, rfl⟩ rfl rfl rfl rfl rfl (by kernel_rfl) Try.func3 (by kernel_rfl)
    (of_decide_eq_true (by kernel_rfl)) (by unfold Func.isWrapper; rw [if_neg (of_decide_eq_false (by kernel_rfl))]; exact ⟨rfl, rfl⟩)
    (fun os started H enc _ => slotsRuns_lifted os started H enc)

#print axioms slotsRuns_holds
end Go.Proofs.Ytbohhabnejmemaa
