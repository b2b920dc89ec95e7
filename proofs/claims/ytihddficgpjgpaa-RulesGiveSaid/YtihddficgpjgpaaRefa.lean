/- The document's level of a category; the greater or lesser of two levels. -/
import Derived.Test.YtihddficgpjgpaaTurn
namespace Go.Proofs.Ytihddficgpjgpaa
open Go.RowKit Go.ChangeShapes Go.WideShapes Go.Shelf

def RAt (l : Lab) (c : Int) (vi : Value) : Prop := ∃ k : Nat, k ≤ l.ps.length ∧ vi = .int .i64 k ∧ atP l.d (l.ps.drop k) c = l.lv c

set_option maxRecDepth 100000 in
set_option maxHeartbeats 800000 in
theorem rat_any (v : Value) (l : Lab) (c : Int) (w : World) (h : LabV w w.heap.size v l) (hl : l.ps.length ≤ 1000000) :
    Calls Try.prog 81 #[v, .int .u32 c] w fun e w' => e = .returned (.int .i64 (l.lv c)) ∧ Below w.heap.size w w' := by
  obtain ⟨A, cp, rfl, hp, hcp⟩ := h
  have b0 := (Below.refl w.heap.size w).alloc (Nat.le_refl _) (.cells #[.int .i64 l.d, .slice A l.ps.length cp] 39)
  have k0 := Blk.new w 39 #[.int .i64 l.d, .slice A l.ps.length cp]
  have hp1 := hp.below b0
  go_enter Try.func81, Try.ntmps81
  go_wp2_with fail
  generalize w.alloc (.cells #[.int .i64 l.d, .slice A l.ps.length cp] 39) = w1 at *
  have e0 := k0.cell 0
  have e1 := k0.cell 1
  simp at e0 e1
  clear k0 hp
  go_loop [5] (fun vi => RAt l c vi) (fun vi => l.ps.length - (intOf vi).toNat)
  case atStart => exact ⟨0, Nat.zero_le _, rfl, rfl⟩
  case round =>
    obtain ⟨k, hk, rfl, he⟩ := hrel
    by_cases hlt : k < l.ps.length
    · rw [List.drop_eq_getElem_cons hlt, atP] at he
      obtain ⟨b, off, rfl, hb, hc⟩ := hp1 (by omega)
      obtain ⟨c0, c1⟩ := hc k hlt
      by_cases hcat : l.ps[k].1 = c
      · rw [if_pos hcat] at he
        rw [hcat] at c0
        have HE := Lib.hid he
        clear he hc hcat hp1
        generalize l.ps[k].2 = lev at *
        go_wp2_with fail
        go_ret
        exact ⟨ret_int HE.out, b0⟩
      · rw [if_neg hcat] at he
        have hcb : (l.ps[k].1 == c) = false := by simpa using hcat
        have HE := Lib.hid he
        clear he hc hcat
        generalize l.ps[k] = pr at *
        obtain ⟨cat, lev⟩ := pr
        simp only at c0 c1 hcb
        go_wp2_with fail
        go_round
        case rel => exact ⟨k + 1, by omega, by go_num, HE.out⟩
        case measure => simp [intOf]; omega
    · rw [List.drop_eq_nil_of_le (by omega), atP] at he
      have HE := Lib.hid he
      clear he
      go_wp2_with fail
      go_ret
      exact ⟨ret_int HE.out, b0⟩

theorem one_j (x y : Int) (w : World) : Calls Try.prog 113 #[.int .i64 x, .int .i64 y, .int .u8 106] w fun e w' => e = .returned (.int .i64 (max x y)) ∧ w = w' := by
  by_cases h : y < x
  · have hd : decide (x > y) = true := by simpa using h
    go_enter Try.func113, Try.ntmps113
    go_wp2_with fail
    go_ret
    exact ⟨ret_int (by omega), rfl⟩
  · have hd : decide (x > y) = false := by simpa using h
    go_enter Try.func113, Try.ntmps113
    go_wp2_with fail
    go_ret
    exact ⟨ret_int (by omega), rfl⟩
theorem one_m (x y : Int) (w : World) : Calls Try.prog 113 #[.int .i64 x, .int .i64 y, .int .u8 109] w fun e w' => e = .returned (.int .i64 (min x y)) ∧ w = w' := by
  by_cases h : y < x
  · have hd : decide (x > y) = true := by simpa using h
    go_enter Try.func113, Try.ntmps113
    go_wp2_with fail
    go_ret
    exact ⟨ret_int (by omega), rfl⟩
  · have hd : decide (x > y) = false := by simpa using h
    go_enter Try.func113, Try.ntmps113
    go_wp2_with fail
    go_ret
    exact ⟨ret_int (by omega), rfl⟩
end Go.Proofs.Ytihddficgpjgpaa
