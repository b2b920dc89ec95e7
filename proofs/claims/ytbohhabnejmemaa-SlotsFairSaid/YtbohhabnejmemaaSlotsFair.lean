/- The law SlotsFair: for every input the call returns true: in as many turns of a slot as share it each has one; each slot begins once in as many ticks as all have. No condition. -/
import Derived.Test.YtbohhabnejmemaaCount
namespace Go.Proofs.Ytbohhabnejmemaa
open Go.RowKit Go.ChangeShapes Go.WideShapes

def KRel (w : World) (gc : Nat) (A : Option Addr) (sl : List (Int × Int)) (bound : Nat) (s : Nat) (left : Int) (T : List Int) (wr : World) : Prop :=
  ∃ now : Int, ∃ hs : s < sl.length, 1 ≤ left ∧ left ≤ sl[s].2 ∧ 0 ≤ now ∧ now ≤ bound ∧ T.length = 8 ∧ (∀ x ∈ T, 0 ≤ x ∧ x ≤ bound) ∧
    Blk wr gc 29 (clk s left now T) ∧ SlotsAt wr gc A sl ∧ Below w.heap.size w wr ∧ w.heap.size ≤ gc

section
variable {w wr w' : World} {gc : Nat} {A : Option Addr} {sl : List (Int × Int)} {bound s : Nat} {left : Int} {T : List Int}
theorem KRel.alloc (h : KRel w gc A sl bound s left T wr) (o : Obj) : KRel w gc A sl bound s left T (wr.alloc o) := by
  obtain ⟨now, hs, h1, h2, h3, h4, h5, h6, k, sa, b, g⟩ := h
  exact ⟨now, hs, h1, h2, h3, h4, h5, h6, k.alloc _, sa.keep (fun p hp => World.cell?_alloc_lt _ _ _ (Nat.lt_trans hp k.lt)), b.alloc b.size _, g⟩
theorem KRel.grown (h : KRel w gc A sl bound s left T wr) {b : Nat} (hg : wr.grownBy w' (some b)) (hb : gc < b) : KRel w gc A sl bound s left T w' := by
  obtain ⟨now, hs, h1, h2, h3, h4, h5, h6, k, sa, bl, g⟩ := h
  exact ⟨now, hs, h1, h2, h3, h4, h5, h6, k.grown hg (by simp; omega), sa.keep (fun p hp => World.cell?_of_block (hg.block p.block (Nat.lt_trans hp k.lt) (by simp; omega))), below_of_only bl hg (by omega) bl.size, g⟩
theorem KRel.drewN (h : KRel w gc A sl bound s left T wr) (n : Nat) : KRel w gc A sl bound s left T (wr.drewN n) := by
  obtain ⟨now, hs, h1, h2, h3, h4, h5, h6, k, sa, bl, g⟩ := h
  exact ⟨now, hs, h1, h2, h3, h4, h5, h6, k.drewN n, sa.keep fun _ _ => rfl, below_drewN bl n, g⟩
theorem KRel.below (h : KRel w gc A sl bound s left T wr) : Below w.heap.size w wr := by obtain ⟨now, hs, h1, h2, h3, h4, h5, h6, k, sa, bl, g⟩ := h; exact bl
theorem KRel.lt (h : KRel w gc A sl bound s left T wr) : gc < wr.heap.size := by obtain ⟨now, hs, h1, h2, h3, h4, h5, h6, k, sa, bl, g⟩ := h; exact k.lt

/-- A turn is taken. -/
theorem next_rel (h : KRel w gc A sl bound s left T wr) (h8 : sl.length ≤ 8) (hb : bound ≤ 100000) {t : Int} (ht : T[s]? = some t) :
    Calls Try.prog 14 #[.pointer (some ⟨gc, 0, none⟩)] wr fun e w' => e = .returned (.tuple #[]) ∧ KRel w gc A sl (bound + 1) s left (T.set s (t + 1)) w' ∧ wr.grownBy w' (some gc) := by
  obtain ⟨now, hs, h1, h2, h3, h4, h5, h6, k, sa, bl, g⟩ := h
  have tb := h6 _ (List.mem_of_getElem? ht)
  refine (next_any gc s left now T t wr k ht (by omega) (by omega) (by omega)).mono ?_
  rintro e w' ⟨rfl, k', g'⟩
  refine ⟨rfl, ⟨now, hs, h1, h2, h3, by omega, by rw [List.length_set]; exact h5, fun z hz => ?_, k', sa.keep (fun p hp => World.cell?_of_block (g'.block p.block (Nat.lt_trans hp k.lt) (by simp; omega))), below_of_only bl g' g bl.size, g⟩, g'⟩
  rcases List.mem_or_eq_of_mem_set hz with h | rfl
  · have := h6 z h; omega
  · omega

/-- Whose turn it is. -/
theorem turn_rel (h : KRel w gc A sl bound s left T wr) (h8 : sl.length ≤ 8) (hb : bound ≤ 100000) {t : Int} (ht : T[s]? = some t) (m : Int) (hm : 1 ≤ m) (hm' : m ≤ 100) :
    Calls Try.prog 17 #[.pointer (some ⟨gc, 0, none⟩), .int .i64 m] wr fun e w' => e = .returned (.int .i64 (t % m)) ∧ ∃ n, w' = wr.drewN n := by
  obtain ⟨now, hs, h1, h2, h3, h4, h5, h6, k, sa, bl, g⟩ := h
  have tb := h6 _ (List.mem_of_getElem? ht)
  exact turn_some gc s left now T m t wr k ht (by omega) hm hm' (by omega) (by omega)
theorem slot_rel (h : KRel w gc A sl bound s left T wr) :
    Calls Try.prog 15 #[.pointer (some ⟨gc, 0, none⟩)] wr fun e w' => e = .returned (.int .i64 s) ∧ wr = w' := by
  obtain ⟨now, hs, h1, h2, h3, h4, h5, h6, k, sa, bl, g⟩ := h
  exact slot_any _ _ _ _ _ _ k

/-- The clock ticks: it stays in its slot, or the next one begins. -/
theorem tick_rel (h : KRel w gc A sl bound s left T wr) (h8 : sl.length ≤ 8) (hb : bound ≤ 100000) (hat : ∀ k (hk : k < sl.length), 1 ≤ sl[k].2 ∧ sl[k].2 ≤ 16) (c : Nat) :
    Calls Try.prog 13 #[.pointer (some ⟨gc, 0, none⟩), .slice A sl.length c] wr fun e w' => ∃ v : Bool, e = .returned (.bool v) ∧ wr.grownBy w' (some gc) ∧
      ((1 < left ∧ v = false ∧ KRel w gc A sl (bound + 1) s (left - 1) T w') ∨ (left = 1 ∧ v = true ∧ ∃ k, ∃ hk : k < sl.length, (s + 1) % sl.length = k ∧ KRel w gc A sl (bound + 1) k sl[k].2 T w')) := by
  obtain ⟨now, hs, h1, h2, h3, h4, h5, h6, k, sa, bl, g⟩ := h
  have hat' := hat s hs
  by_cases hl : left = 1
  · subst hl
    have hk : (s + 1) % sl.length < sl.length := Nat.mod_lt _ (by omega)
    refine (tick_next gc A c sl s _ now T wr k sa hs h8 h3 (by omega) hk rfl).mono ?_
    rintro e w' ⟨rfl, k', g'⟩
    refine ⟨true, rfl, g', .inr ⟨rfl, rfl, _, hk, rfl, now + 1, hk, (hat _ hk).1, Int.le_refl _, by omega, by omega, h5, fun z hz => by have := h6 z hz; omega, k', sa.keep (fun p hp => World.cell?_of_block (g'.block p.block (Nat.lt_trans hp k.lt) (by simp; omega))), below_of_only bl g' g bl.size, g⟩⟩
  · refine (tick_on gc A c sl s left now T wr k (by omega) (by omega) h3 (by omega)).mono ?_
    rintro e w' ⟨rfl, k', g'⟩
    refine ⟨false, rfl, g', .inl ⟨by omega, rfl, now + 1, hs, by omega, by omega, by omega, by omega, h5, fun z hz => by have := h6 z hz; omega, k', sa.keep (fun p hp => World.cell?_of_block (g'.block p.block (Nat.lt_trans hp k.lt) (by simp; omega))), below_of_only bl g' g bl.size, g⟩⟩
end

theorem off_bd (sl : List (Int × Int)) (hat : ∀ k (hk : k < sl.length), 1 ≤ sl[k].2 ∧ sl[k].2 ≤ 16) (k : Nat) (hk : k ≤ sl.length) : 0 ≤ off sl k ∧ off sl k ≤ 16 * k := by
  induction k with
  | zero => rw [off_zero]; simp
  | succ k ih =>
    have := ih (by omega)
    have := hat k (by omega)
    rw [off_succ sl k (by omega)]
    omega

set_option maxRecDepth 100000 in
set_option maxHeartbeats 3200000 in
theorem slotsFair_walk (A : Option Addr) (c : Nat) (l : List Int) (n from_ : Int) (w : World) (h : IntsAt .i64 w w.heap.size A l) (hm : l.length ≤ 9223372036854775807) :
    Calls Try.prog 4 #[.slice A l.length c, .int .i64 n, .int .i64 from_] w fun e w' => e = .returned (.bool true) ∧ Below w.heap.size w w' := by
  by_cases hbig : 50 < l.length
  · go_enter Try.func4, Try.ntmps4
    go_wp2_with (go_at_call 10; refine (fit17 _).mono ?_; rintro e w1 ⟨rfl, hb1⟩)
    go_ret
    exact ⟨rfl, hb1⟩
  have q15 := i64_and15 n
  have q255 := i64_and255 from_
  have n0 := Int.emod_nonneg n (show (16 : Int) ≠ 0 by omega)
  have n1 := Int.emod_lt_of_pos n (show (0 : Int) < 16 by omega)
  have f0 := Int.emod_nonneg from_ (show (256 : Int) ≠ 0 by omega)
  have f1 := Int.emod_lt_of_pos from_ (show (0 : Int) < 256 by omega)
  obtain ⟨N, hN⟩ : ∃ N : Nat, n % 16 = (N : Int) := ⟨(n % 16).toNat, by omega⟩
  obtain ⟨F, hF⟩ : ∃ F : Nat, from_ % 256 = (F : Int) := ⟨(from_ % 256).toNat, by omega⟩
  rw [hN] at q15 n1
  rw [hF] at q255 f1
  clear n0 f0 hN hF
  have hmm := @run_makeMap Try.prog
  go_enter Try.func4, Try.ntmps4
  go_wp2_with (go_at_call 10; refine (fit17 _).mono ?_; rintro e w1 ⟨rfl, hb1⟩)
  refine (table_any A c l _ ((h.below hb1).more hb1.size) (by omega)).mono ?_
  rintro e w2 ⟨v, n2, rfl, hown, hb2⟩
  obtain ⟨As, cs, rfl, hs⟩ := slotsAt_own hown
  have hb2' := hb1.trans (hb2.mono hb1.size)
  obtain ⟨hl1, hl8⟩ := tableL_len l
  have hat := tableL_at l
  clear hown hb2
  generalize tableL l = sl at *
  have hat0 := hat 0 (by omega)
  go_wp2_with fail
  refine (new_any _ _ sl _ hs (by omega)).mono ?_
  rintro e w3 ⟨rfl, hb3⟩
  have hs3 := (hs.below hb3).more hb3.size
  have hb3' := hb2'.trans (hb3.mono hb2'.size)
  clear hs hb3 hb1 hb2'
  go_wp2_with fail
  have kr : KRel w w3.heap.size As sl 0 0 sl[0].2 [0, 0, 0, 0, 0, 0, 0, 0] (w3.alloc (.cells (clk (0 : Nat) sl[0].2 0 [0, 0, 0, 0, 0, 0, 0, 0]) 29)) :=
    ⟨0, by omega, hat0.1, Int.le_refl _, by omega, by omega, rfl, by decide, Blk.new w3 29 _, hs3.keep (fun p hp => World.cell?_alloc_lt _ _ _ hp), hb3'.alloc hb3'.size _, hb3'.size⟩
  simp only [clk, List.map_cons, List.map_nil] at kr
  generalize w3.alloc _ = w4 at *
  generalize w3.heap.size = gc at *
  clear hs3 hb3'
  -- the ticks of all slots
  go_loopw [9, 32] (fun va vi wr => ∃ k : Nat, k ≤ sl.length ∧ vi = .int .i64 k ∧ va = .int .i64 (off sl k) ∧ KRel w gc As sl 0 0 sl[0].2 [0, 0, 0, 0, 0, 0, 0, 0] wr) (fun _ i _ => sl.length - (intOf i).toNat)
  case atStart => exact ⟨0, Nat.zero_le _, rfl, by rw [off_zero], kr⟩
  case round =>
    obtain ⟨k, hk, rfl, rfl, hR⟩ := hrel
    clear kr
    by_cases hlt : k < sl.length
    · have HR := Lib.hid hR
      obtain ⟨_, _, _, _, _, _, _, _, _, sa, _, _⟩ := hR
      obtain ⟨b, o, rfl, hb, hc⟩ := sa (by omega)
      obtain ⟨e0, e1⟩ := hc k hlt
      have hatk := hat k hlt
      have hob := off_bd sl hat k (by omega)
      have HO := Lib.hid (off_succ sl k hlt)
      clear hc
      go_wp2
      go_roundw
      case rel => exact ⟨k + 1, by omega, by go_num, by rw [HO.out], HR.out.alloc _⟩
      case measure => simp [intOf]; omega
    · obtain rfl : k = sl.length := by omega
      obtain ⟨N2, hN2⟩ : ∃ N2 : Nat, off sl sl.length = (N2 : Int) := ⟨(off sl sl.length).toNat, by have := (off_bd sl hat sl.length (Nat.le_refl _)).1; omega⟩
      have hN2b : N2 ≤ 128 := by have := (off_bd sl hat sl.length (Nat.le_refl _)).2; omega
      rw [hN2]
      have HN2 := Lib.hid hN2
      clear hN2 hlt hk
      go_wp2
      -- some ticks and turns ahead
      go_loopw [42] (fun vi wr => ∃ (k s : Nat) (left : Int) (T : List Int), k ≤ F ∧ vi = .int .i64 k ∧ KRel w gc As sl (2 * k) s left T wr) (fun i _ => F - (intOf i).toNat)
      case atStart => exact ⟨0, 0, _, _, Nat.zero_le _, rfl, hR⟩
      case round =>
        obtain ⟨k, s, left, T, hk, rfl, hR'⟩ := hrel
        clear hR
        by_cases hlt : k < F
        · go_wp2_with fail
          refine (tick_rel hR' hl8 (by omega) hat cs).mono ?_
          rintro e w6 ⟨v, rfl, _, hT⟩
          obtain ⟨s', left', hR6⟩ : ∃ s' left', KRel w gc As sl (2 * k + 1) s' left' T w6 := by
            rcases hT with ⟨_, _, h⟩ | ⟨_, _, k', hk', _, h⟩
            · exact ⟨_, _, h⟩
            · exact ⟨_, _, h⟩
          clear hR' hT
          have hT8 : T.length = 8 := by obtain ⟨_, _, _, _, _, _, h, _⟩ := hR6; exact h
          have hs8 : s' < T.length := by obtain ⟨_, h, _⟩ := hR6; omega
          go_wp2_with fail
          refine (next_rel hR6 hl8 (by omega) (List.getElem?_eq_getElem hs8)).mono ?_
          rintro e w7 ⟨rfl, hR7, _⟩
          clear hT8 hR6
          go_wp2_with fail
          go_roundw
          case rel => exact ⟨k + 1, _, _, _, by omega, by go_num, hR7⟩
          case measure => simp [intOf]; omega
        · have hT8 : T.length = 8 := by obtain ⟨_, _, _, _, _, _, h, _⟩ := hR'; exact h
          have hsl : s < sl.length := by obtain ⟨_, h, _⟩ := hR'; exact h
          have hs8 : s < T.length := by omega
          have hTs : T[s]? = some T[s] := List.getElem?_eq_getElem hs8
          have htb : 0 ≤ T[s] ∧ T[s] ≤ 2 * k := by obtain ⟨_, _, _, _, _, _, _, h, _⟩ := hR'; have := h _ (List.getElem_mem hs8); omega
          generalize T[s] = t0 at *
          obtain ⟨t0, rfl⟩ : ∃ t1 : Nat, t0 = (t1 : Int) := ⟨t0.toNat, by omega⟩
          have HTs := Lib.hid hTs
          clear hTs hT8
          go_wp2
          clear hlt
          have hgc : gc < wr.heap.size := hR'.lt
          have hR3 := hR'.alloc (.map #[] 0)
          have hC3 := CMap.made wr (N + 1)
          generalize wr.alloc _ = w5 at *
          generalize wr.heap.size = bm at *
          clear hR'
          -- the turns
          go_loopw [50] (fun vi wr => ∃ (j : Nat) (T' : List Int), j ≤ N + 1 ∧ vi = .int .i64 j ∧ T'[s]? = some ((t0 + j : Nat) : Int) ∧ KRel w gc As sl (2 * k + j) s left T' wr ∧ ∃ c, CMap wr bm (N + 1) j (had (t0 % (N + 1)) (N + 1) j) c) (fun i _ => N + 1 - (intOf i).toNat)
          case atStart => exact ⟨0, T, Nat.zero_le _, rfl, HTs.out, hR3, 0, hC3.congr (fun i hi => (had_zero _ _ _ (Nat.mod_lt _ (by omega))).symm)⟩
          case round =>
            obtain ⟨j, T', hj, rfl, hT', hRj, cj, hCj⟩ := hrel
            clear hR3 hC3
            have HT' := Lib.hid hT'
            clear hT'
            by_cases hlt : j < N + 1
            · go_wp2_with fail
              refine (turn_rel hRj hl8 (by omega) HT'.out _ (by omega) (by omega)).mono ?_
              rintro e w6 ⟨rfl, nq, rfl⟩
              obtain ⟨i, hi⟩ : ∃ i, (t0 % (N + 1) + j) % (N + 1) = i := ⟨_, rfl⟩
              obtain ⟨hiN, hi0, histep⟩ := had_step (t0 % (N + 1)) (N + 1) j (Nat.mod_lt _ (by omega)) hlt hi
              have hie : ((t0 + j : Nat) : Int) % ((N : Int) + 1) = (i : Int) := by
                rw [← hi, Nat.mod_add_mod]; simp
              rw [hie]
              have hi1 : had (t0 % (N + 1)) (N + 1) j i ≤ 1 := by omega
              have HI0 := Lib.hid hi0
              have HIS := Lib.hid histep
              clear hi0 histep hie hi
              generalize had (t0 % (N + 1)) (N + 1) j = f at *
              go_wp2_with (first
                | (at_lookup; refine wpList_clook rfl _ _ rfl rfl (hCj.drewN (k := nq)) hiN (by omega) rfl rfl ?_)
                | (at_mapUpdate; refine wpList_cput rfl _ _ _ rfl rfl (hCj.drewN (k := nq)) hiN (by omega) (by omega) (by omega) rfl rfl ?_; intro w7 hC7 hg7))
              have hR7 := (hRj.drewN nq).grown hg7 hgc
              clear hRj hCj
              refine (next_rel hR7 hl8 (by omega) HT'.out).mono ?_
              rintro e w8 ⟨rfl, hR8, hg8⟩
              have hC8 := hC7.grown hg8 (by simp; omega)
              clear hR7 hC7 hg7 hg8
              go_wp2_with fail
              go_roundw
              case rel => exact ⟨j + 1, _, by omega, by go_num, by rw [List.getElem?_set_self (by have := List.getElem?_eq_some_iff.1 HT'.out; exact this.1)]; simp; omega, hR8, _, hC8.congr (fun i hi => (HIS.out i hi).symm)⟩
              case measure => simp [intOf]; omega
            · obtain rfl : j = N + 1 := by omega
              clear HT' hj
              go_wp2
              clear hlt
              -- each had one turn
              go_loop [60] (fun vi => ∃ i : Nat, i ≤ N + 1 ∧ vi = .int .i64 i) (fun vi => N + 1 - (intOf vi).toNat)
              case atStart => exact ⟨0, Nat.zero_le _, rfl⟩
              case round =>
                obtain ⟨i, hi, rfl⟩ := hrel
                by_cases hlt : i < N + 1
                · have h1 := Lib.hid (had_all (t0 % (N + 1)) (N + 1) i hlt)
                  go_wp2_with (at_lookup; refine wpList_clook rfl _ _ rfl rfl hCj hlt (by omega) rfl (v := 1) (by rw [h1.out]; rfl) ?_)
                  refine ⟨⟨_, _, _, ⟨i + 1, by omega, rfl⟩, rfl, rfl, by go_num⟩, by simp [intOf]; omega⟩
                · clear hCj
                  go_wp2
                  clear hlt hi
                  have hgc2 : gc < wr.heap.size := hRj.lt
                  have hR4 := hRj.alloc (.map #[] 0)
                  have hC4 := CMap.made wr sl.length
                  generalize wr.alloc _ = w5 at *
                  generalize wr.heap.size = bn at *
                  clear hRj
                  have hp : ∀ k (hk : k < sl.length), 1 ≤ sl[k].2 := fun k hk => (hat k hk).1
                  have hlft : 1 ≤ left ∧ left ≤ sl[s].2 := by obtain ⟨_, _, h1, h2, _⟩ := hR4; exact ⟨h1, h2⟩
                  obtain ⟨p0, hp0⟩ : ∃ p0, Hid (p0 = off sl s + sl[s].2 - left) := ⟨_, Lib.hid rfl⟩
                  have hos := (off_bd sl hat s (by omega)).1
                  have hol := off_lt sl hp s sl.length hsl (Nat.le_refl _)
                  have hp0b : 0 ≤ p0 ∧ p0 < off sl sl.length := by have := hp0.out; omega
                  have HP0 : Hid (Phase sl p0 0 s left) := by show Phase sl p0 0 s left; unfold Phase; rw [getD_at sl s hsl, hp0.out]; simp
                  clear hos hol hlft hp0
                  obtain ⟨B0, hB0⟩ : ∃ B0, 2 * k + (N + 1) = B0 := ⟨_, rfl⟩
                  rw [hB0] at hR4
                  have hB0b : B0 ≤ 600 := by omega
                  clear hB0 htb hk HTs hs8
                  -- all ticks once
                  go_loopw [70] (fun vi wr => ∃ (j s : Nat) (left : Int) (T : List Int), j ≤ N2 ∧ vi = .int .i64 j ∧ KRel w gc As sl (B0 + j) s left T wr ∧ Phase sl p0 j s left ∧ CMap wr bn sl.length j (beg sl p0 j) (sumf (beg sl p0 j) sl.length)) (fun i _ => N2 - (intOf i).toNat)
                  case atStart =>
                    refine ⟨0, s, left, _, Nat.zero_le _, rfl, hR4, HP0.out, ?_⟩
                    have hz : ∀ i, i < sl.length → beg sl p0 0 i = 0 := beg_zero sl p0 hp hp0b.2
                    have hz' : sumf (beg sl p0 0) sl.length = 0 := by rw [sumf_const _ _ 0 hz]; simp
                    rw [hz']
                    exact hC4.congr (fun i hi => (hz i hi).symm)
                  case round =>
                    obtain ⟨j, s, left, T, hj, rfl, hRj, hPj, hCj⟩ := hrel
                    have HPj := Lib.hid hPj
                    clear hR4 hC4 HP0 hsl hPj
                    by_cases hlt : j < N2
                    · obtain ⟨hs, hlft⟩ : ∃ hs : s < sl.length, left ≤ sl[s].2 := by obtain ⟨_, hs, _, h2, _⟩ := hRj; exact ⟨hs, h2⟩
                      have hjo : (j : Int) < off sl sl.length := by rw [HN2.out]; omega
                      go_wp2_with fail
                      refine (tick_rel hRj hl8 (by omega) hat cs).mono ?_
                      rintro e w6 ⟨v, rfl, hg6, hT⟩
                      have hC6 := hCj.grown hg6 (by simp; omega)
                      clear hCj hRj hg6
                      rcases hT with ⟨hl2, rfl, hR6⟩ | ⟨hl2, rfl, k', hk', hmod, hR6⟩
                      · obtain ⟨hP', hbeg⟩ := phase_on hp hp0b.1 hp0b.2 hs hlft hjo HPj.out hl2
                        have HP' := Lib.hid hP'
                        have HB := Lib.hid hbeg
                        clear hP' hbeg
                        go_wp2_with fail
                        go_roundw
                        case rel => exact ⟨j + 1, s, left - 1, T, by omega, by go_num, hR6, HP'.out, by rw [sumf_congr _ _ _ HB.out]; exact (hC6.mono (Nat.le_succ _)).congr (fun i hi => (HB.out i hi).symm)⟩
                        case measure => simp [intOf]; omega
                      · obtain ⟨hP', hb0, hb1, hbeg⟩ := phase_next hp hp0b.1 hp0b.2 hs hlft hjo (by rw [← hl2]; exact HPj.out) hk' hmod hl2
                        have HP' := Lib.hid hP'
                        have HB : Hid (∀ i, i < sl.length → beg sl p0 (j + 1) i = bump (beg sl p0 j) k' i) := fun i hi => by
                          unfold bump
                          by_cases e : i = k'
                          · rw [if_pos e, e, hb0, hb1]
                          · rw [if_neg e, hbeg i hi e]
                        have HB0 := Lib.hid hb0
                        have hb01 : beg sl p0 j k' ≤ 1 := by omega
                        clear hP' hbeg hb0 hb1 hmod
                        go_wp2_with fail
                        refine (slot_rel hR6).mono ?_
                        rintro e w7 ⟨rfl, rfl⟩
                        have HS : Hid (sumf (beg sl p0 (j + 1)) sl.length = sumf (beg sl p0 j) sl.length + 1) := by show _ = _; rw [sumf_congr _ _ _ HB.out, sumf_bump _ _ _ hk']
                        generalize hf : beg sl p0 j = f at *
                        clear hf
                        go_wp2_with (first
                          | (at_lookup; refine wpList_clook rfl _ _ rfl rfl hC6 hk' (by omega) rfl rfl ?_)
                          | (at_mapUpdate; refine wpList_cput rfl _ _ _ rfl rfl hC6 hk' (by omega) (by omega) (by omega) rfl rfl ?_; intro w7 hC7 hg7))
                        have hR7 := hR6.grown hg7 hgc2
                        go_roundw
                        case rel => exact ⟨j + 1, k', sl[k'].2, T, by omega, by go_num, hR7, HP'.out, by rw [HS.out]; rw [if_pos HB0.out] at hC7; exact hC7.congr (fun i hi => (HB.out i hi).symm)⟩
                        case measure => simp [intOf]; omega
                    · obtain rfl : j = N2 := by omega
                      have hall : ∀ i, i < sl.length → beg sl p0 j i = 1 := beg_all sl p0 hp j HN2.out.symm hp0b.1
                      have hsum : sumf (beg sl p0 j) sl.length = sl.length := by rw [sumf_const _ _ 1 hall]; simp
                      rw [hsum] at hCj
                      have HA := Lib.hid hall
                      have hbel := hRj.below
                      clear hall hsum hj hRj HPj
                      go_wp2
                      clear hlt
                      -- each has begun once
                      go_loop [81] (fun vi => ∃ i : Nat, i ≤ sl.length ∧ vi = .int .i64 i) (fun vi => sl.length - (intOf vi).toNat)
                      case atStart => exact ⟨0, Nat.zero_le _, rfl⟩
                      case round =>
                        obtain ⟨i, hi, rfl⟩ := hrel
                        by_cases hlt : i < sl.length
                        · have h1 := Lib.hid (HA.out i hlt)
                          go_wp2_with (at_lookup; refine wpList_clook rfl _ _ rfl rfl hCj hlt (by omega) rfl (v := 1) (by rw [h1.out]; rfl) ?_)
                          go_round
                          case rel => exact ⟨i + 1, by omega, by go_num⟩
                          case measure => simp [intOf]; omega
                        · go_wp2_with (at_len; refine wpList_clen rfl _ rfl rfl hCj ?_)
                          go_ret
                          exact ⟨rfl, hbel⟩

set_option maxRecDepth 100000 in
theorem slotsFair_lifted (os : Os) (started : os.Started) (H : Type) (enc : TypeId × Value → H) :
    ReturnsInHanded {} Try.checked os 4 .any (Rows.slotsFairSpec.pre6 enc Try.prog Try.f4 Rows.slotsFairRow.domain false) (Rows.slotsFairSpec.post enc Try.prog Try.f4 false true false false) := by
  refine lifted_of (C := Try.checked) laidOut own started (by kernel_rfl) Try.func4 rfl Try.underlying4 (by kernel_rfl) rfl
    (fun ds hds => by match ds, hds with | [_, _, _], _ => rfl)
    (ChangeSpec.witness6 (enc := enc) (C := Try.checked) false ⟨#[], #[.slice none 0 0, .int .i64 0, .int .i64 0], []⟩ 8 (by kernel_rfl) (by kernel_rfl) (by kernel_rfl) (by kernel_rfl)) ?_
  intro W base args ds ps hval0 hA0 hlt
  have hval : ∀ (j : Nat) t v, Try.f4.params[j]? = some t → args[j]? = some v → Value.okWide Try.prog W .any base t v := hval0
  have hA : DataW.TrodAll enc Try.prog W 0 (fun _ => true) true Try.f4.params.toList args.toList ds ps := hA0
  rw [Try.params4] at hA hval
  obtain ⟨v0, vs0, d0, ds0, p0, q0, hargs, rfl, rfl, h0, r0⟩ := trodAll_cons hA
  obtain ⟨v1, vs1, d1, ds1, p1, q1, rfl, rfl, rfl, h1, r1⟩ := trodAll_cons r0
  obtain ⟨v2, vs2, d2, ds2, p2, q2, rfl, rfl, rfl, h2, r2⟩ := trodAll_cons r1
  obtain ⟨rfl, rfl, rfl⟩ := trodAll_nil r2
  obtain rfl : args = #[v0, v1, v2] := by cases args; simp_all
  obtain ⟨A0, l0, c0, rfl, hm0, hi0, hw0⟩ := open_intsV Try.underlying22 Try.underlying3 (by kernel_rfl) (hval 0 22 v0 rfl rfl) h0 (fun x hx => hlt x (List.mem_append_left _ hx))
  obtain ⟨x1, rfl, rfl, rfl, w1⟩ := open_int Try.underlying3 (hval 1 3 v1 rfl rfl) h1
  obtain ⟨x2, rfl, rfl, rfl, w2⟩ := open_int Try.underlying3 (hval 2 3 v2 rfl rfl) h2
  exact slotsFair_walk A0 c0 l0 x1 x2 W hi0 (by unfold maxLen at hm0; omega)

theorem slotsFair_holds : Rows.SlotsFairSaid :=
  OpenClaim.holds_of_wide 4 Try.f4 rfl rfl rfl rfl rfl rfl rfl ⟨rfl, rfl, rfl, rfl, rfl⟩ rfl rfl rfl rfl rfl (by kernel_rfl) Try.func4 (by kernel_rfl)
    (of_decide_eq_true (by kernel_rfl)) (by unfold Func.isWrapper; rw [if_neg (of_decide_eq_false (by kernel_rfl))]; exact ⟨rfl, rfl⟩)
    (fun os started H enc _ => slotsFair_lifted os started H enc)

#print axioms slotsFair_holds
end Go.Proofs.Ytbohhabnejmemaa
