/- The contract of glacislaw17.table: of numbers, a table of 1 to 8 slots of 1 to 16 ticks, in memory of its own. -/
import Derived.Test.YtbohhabnejmemaaFit17
import Derived.Test.YtbohhabnejmemaaOpen
import Derived.Test.YtbohhabnejmemaaBits
namespace Go.Proofs.Ytbohhabnejmemaa
open Go.RowKit

def slotOf (n : Int) : Int × Int := (0, n % 16 + 1)
def tableL (l : List Int) : List (Int × Int) := if l = [] then [(0, 1)] else (l.take 8).map slotOf

theorem Try.info32 : (Try.prog.info? 32).map (fun i => (i.zero, i.size, i.bytes)) = some (some (.agg #[.int .u64 0, .int .i64 0]), 2, 16) := by kernel_rfl

theorem slotCells_snoc (l : List (Int × Int)) (p : Int × Int) : slotCells (l ++ [p]) = slotCells l ++ [.int .u64 p.1, .int .i64 p.2] := by simp [slotCells]

theorem take8_lt (l : List Int) (k : Nat) (hk : k < l.length) (h8 : k < 8) : ((l.take 8).take (k + 1)).map slotOf = ((l.take 8).take k).map slotOf ++ [slotOf l[k]] := by
  rw [List.take_succ_eq_append_getElem (by simp; omega)]; simp
theorem take8_ge (l : List Int) (k : Nat) (h8 : 8 ≤ k) : ((l.take 8).take (k + 1)).map slotOf = ((l.take 8).take k).map slotOf := by
  rw [List.take_take, List.take_take, Nat.min_eq_right (by omega), Nat.min_eq_right (by omega)]
theorem take8_len (l : List Int) (k : Nat) (hk : k ≤ l.length) : (((l.take 8).take k).map slotOf).length = min k 8 := by simp; omega

set_option maxHeartbeats 800000 in
theorem table_any (A : Option Addr) (c : Nat) (l : List Int) (w : World) (h : IntsAt .i64 w w.heap.size A l) (hm : l.length ≤ 1000) :
    Calls Try.prog 11 #[.slice A l.length c] w fun e w' => ∃ v n, e = .returned v ∧ w'.ownsRow w.heap.size 32 2 v n (slotCells (tableL l)) ∧ Below w.heap.size w w' := by
  obtain ⟨i0, hi, hz0, hz1, hz2⟩ := info_parts Try.info32
  by_cases hl : l = []
  · subst hl
    go_enter Try.func11, Try.ntmps11
    go_wp2
    go_ret
    refine ⟨.slice (some ⟨w.heap.size, 0, none⟩) 1 1, 1, rfl, ⟨by simp [tableL, slotCells], .inr ⟨w.heap.size, 1, #[.int .u64 0, .int .i64 1], rfl, Nat.le_refl _, Blk.new w 32 _, Nat.le_refl _, by decide, rfl, by simp [tableL, slotCells]⟩⟩, (Below.refl _ _).alloc (Nat.le_refl _) _⟩
  · have hpos : 0 < l.length := List.length_pos_iff.2 hl
    have hne : ((l.length : Int) == 0) = false := by simp; omega
    obtain ⟨b, off, rfl, hbB, hc⟩ := h hpos
    go_enter Try.func11, Try.ntmps11
    go_wp2
    go_loopw [3, 4, 5, 13] (fun o _ _ i wr => ∃ k : Nat, k ≤ l.length ∧ i = .int .i64 k ∧ wr.ownsRow w.heap.size 32 2 o (min k 8) (slotCells (((l.take 8).take k).map slotOf)) ∧ Below w.heap.size w wr) (fun _ _ _ i _ => l.length - (intOf i).toNat)
    case atStart => exact ⟨0, Nat.zero_le _, rfl, World.ownsRow_nil _ _ _ _, Below.refl _ _⟩
    case round =>
      obtain ⟨k, hk, rfl, hown, hb⟩ := hrel
      by_cases hlt : k < l.length
      · have e0 := (hb.cell (p := ⟨b, off + k, none⟩) hbB).trans (hc k hlt)
        have q := i64_and15 l[k]
        have q0 := Int.emod_nonneg l[k] (show (16 : Int) ≠ 0 by omega)
        have q1 := Int.emod_lt_of_pos l[k] (show (0 : Int) < 16 by omega)
        by_cases h8 : k < 8
        · have hcx : ∀ j u, [Value.int .u64 0, Value.int .i64 (l[k] % 16 + 1)][j]? = some u → (wr.alloc (.cells #[.int .u64 0, .int .i64 (l[k] % 16 + 1)] 32)).cell? ((⟨wr.heap.size, 0, none⟩ : Addr).add j) = some u := by
            intro j u hu
            rw [add_none, (Blk.new wr 32 _).cell]
            simpa using hu
          have HC := Lib.hid hcx
          clear hcx
          go_wp2_with (at_builtin; refine wpList_append_own _ rfl _ _ 24 rfl w.heap.size 32 i0 _ 2 16 Try.underlying24 hi hz0 hz1 hz2 rfl (by decide) _ _ _ rfl (hown.alloc _) ⟨wr.heap.size, 0, none⟩ 1 1 [.int .u64 0, .int .i64 (l[k] % 16 + 1)] rfl rfl ?c1 ?c2 ?c3 ?c4 ?c5 ?_)
          case c1 => exact HC.out
          case c2 => intro u hu; simp at hu; rcases hu with rfl | rfl <;> rfl
          case c3 => unfold maxLen; omega
          case c4 => omega
          case c5 => have := hb.size; simp; omega
          intro v' w1 hown' hgrow _
          have hb1 := (hb.alloc hb.size (.cells #[.int .u64 0, .int .i64 (l[k] % 16 + 1)] 32)).grown hgrow (by have := hb.size; simp; omega) (fun g e => (hown.lt g e).1)
          have ho : w1.ownsRow w.heap.size 32 2 v' (min (k + 1) 8) (slotCells (((l.take 8).take (k + 1)).map slotOf)) := by
            rw [take8_lt l k hlt h8, slotCells_snoc, show min (k + 1) 8 = min k 8 + 1 by omega]
            simpa [slotOf, List.map_take] using hown'
          clear hown' hgrow hown HC
          go_wp2
          go_roundw
          case rel => exact ⟨k + 1, by omega, by go_num, ho, hb1⟩
          case measure => simp [intOf]; omega
        · have ho : wr.ownsRow w.heap.size 32 2 u3 (min (k + 1) 8) (slotCells (((l.take 8).take (k + 1)).map slotOf)) := by
            rw [take8_ge l k (by omega), show min (k + 1) 8 = min k 8 by omega]
            exact hown
          clear hown
          go_wp2
          go_roundw
          case rel => exact ⟨k + 1, by omega, by go_num, ho, hb⟩
          case measure => simp [intOf]; omega
      · have hk' : k = l.length := by omega
        have ho : wr.ownsRow w.heap.size 32 2 u3 (min k 8) (slotCells (tableL l)) := by
          rw [tableL, if_neg hl]
          rw [hk', List.take_of_length_le (by simp; omega)] at hown
          rw [hk']; exact hown
        clear hown hk'
        go_wp2
        go_ret
        exact ⟨_, _, rfl, ho, hb⟩
end Go.Proofs.Ytbohhabnejmemaa
