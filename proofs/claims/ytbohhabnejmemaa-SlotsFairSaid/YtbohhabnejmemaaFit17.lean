/- The first line of each law of package slots: the example is as the chapter says. -/
import Derived.Test.YtbohhabnejmemaaClock
namespace Go.Proofs.Ytbohhabnejmemaa
open Go.RowKit

set_option maxHeartbeats 800000 in
theorem fit17 (w : World) : Calls Try.prog 10 #[] w fun e w' => e = .returned (.bool true) ∧ Below w.heap.size w w' := by
  go_enter Try.func10, Try.ntmps10
  go_wp2_with fail
  have s0 : SlotsAt (w.alloc (.cells #[.int .u64 0, .int .i64 1, .int .u64 0, .int .i64 2] 32)) (w.heap.size + 1) (some ⟨w.heap.size, 0, none⟩) [(0, 1), (0, 2)] :=
    SlotsAt.of_blk _ (Blk.new w 32 _) rfl (Nat.lt_succ_self _)
  refine (new_any _ _ [(0, 1), (0, 2)] _ (s0.more (by simp)) (by simp)).mono ?_
  rintro e w1 ⟨rfl, hb1⟩
  simp only [World.size_alloc] at hb1
  have s1 := s0.below hb1
  have z1 := hb1.size
  simp only [World.size_alloc] at z1
  have b1 : Below w.heap.size w w1 := ((Below.refl _ _).alloc (Nat.le_refl _) _).trans (hb1.mono (by omega))
  have z1' : w.heap.size ≤ w1.heap.size := by omega
  clear s0 hb1
  go_wp2_with fail
  have s2 := (s1.more (B' := w1.heap.size) z1).keep (w' := w1.alloc (.cells (clk (0 : Nat) 1 0 [0, 0, 0, 0, 0, 0, 0, 0]) 29)) (fun p hp => World.cell?_alloc_lt _ _ _ hp)
  have k2 := Blk.new w1 29 (clk (0 : Nat) 1 0 [0, 0, 0, 0, 0, 0, 0, 0])
  have b2 := b1.alloc b1.size (.cells (clk (0 : Nat) 1 0 [0, 0, 0, 0, 0, 0, 0, 0]) 29)
  refine (tick_next _ _ _ [(0, 1), (0, 2)] 0 1 0 _ _ k2 s2 (by simp) (by simp) (by omega) (by omega) (by simp) rfl).mono ?_
  rintro e w2 ⟨rfl, k3, g3⟩
  have k3 : Blk w2 w1.heap.size 29 (clk (1 : Nat) 2 1 [0, 0, 0, 0, 0, 0, 0, 0]) := k3
  have s3 := s2.keep (w' := w2) (fun p hp => World.cell?_of_block (g3.block p.block (by simp; omega) (by simp; omega)))
  have b3 := below_of_only b2 g3 z1' b2.size
  clear k2 s2 s1 g3 b2
  go_wp2_with fail
  refine (tick_on _ _ _ [(0, 1), (0, 2)] 1 2 1 _ _ k3 (by omega) (by omega) (by omega) (by omega)).mono ?_
  rintro e w3 ⟨rfl, k4, g4⟩
  have k4 : Blk w3 w1.heap.size 29 (clk (1 : Nat) 1 2 [0, 0, 0, 0, 0, 0, 0, 0]) := k4
  have s4 := s3.keep (w' := w3) (fun p hp => World.cell?_of_block (g4.block p.block (by have := k3.lt; omega) (by simp; omega)))
  have b4 := below_of_only b3 g4 z1' b3.size
  clear k3 s3 g4 b3
  go_wp2_with fail
  refine (tick_next _ _ _ [(0, 1), (0, 2)] 1 0 2 _ _ k4 s4 (by simp) (by simp) (by omega) (by omega) (by simp) rfl).mono ?_
  rintro e w4 ⟨rfl, k5, g5⟩
  have k5 : Blk w4 w1.heap.size 29 (clk (0 : Nat) 1 3 [0, 0, 0, 0, 0, 0, 0, 0]) := k5
  have b5 := below_of_only b4 g5 z1' b4.size
  clear k4 s4 g5 b4
  go_wp2_with (first
    | (go_at_call 15; refine (slot_any _ _ _ _ _ _ k5).mono ?_; rintro e w' ⟨rfl, rfl⟩)
    | (go_at_call 16; refine (now_any _ _ _ _ _ _ k5).mono ?_; rintro e w' ⟨rfl, rfl⟩))
  go_ret
  exact ⟨rfl, b5⟩
end Go.Proofs.Ytbohhabnejmemaa
