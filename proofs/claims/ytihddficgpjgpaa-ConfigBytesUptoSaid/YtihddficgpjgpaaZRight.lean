/- label.Right: whether a label may be. -/
import Derived.Test.YtihddficgpjgpaaZMTop
namespace Go.Proofs.Ytihddficgpjgpaa
open Go.RowKit Go.ChangeShapes Go.WideShapes Go.Shelf
def RRight (w : World) (A : Option Addr) (cp : Nat) (l : Lab) (v3 vi : Value) (wr : World) : Prop :=
  ∃ (k : Nat) (last : Int), k ≤ l.ps.length ∧ vi = .int .i64 k ∧ v3 = .int .u32 last ∧ rightP l.d last (l.ps.drop k) = rightP l.d 0 l.ps ∧ Blk wr w.heap.size 39 #[.int .i64 l.d, .slice A l.ps.length cp] ∧ PairsAt wr w.heap.size A l.ps ∧ Below w.heap.size w wr
set_option maxRecDepth 100000 in
set_option maxHeartbeats 1600000 in
theorem right_any (v : Value) (l : Lab) (w : World) (h : LabV w w.heap.size v l) (hl : l.ps.length ≤ 1000000) :
    Calls Try.prog 49 #[v] w fun e w' => e = .returned (.bool (rightB l)) ∧ Below w.heap.size w w' := by
  obtain ⟨A, cp, rfl, hp, hcp⟩ := h
  have b0 := (Below.refl w.heap.size w).alloc (Nat.le_refl _) (.cells #[.int .i64 l.d, .slice A l.ps.length cp] 39)
  have k0 := Blk.new w 39 #[.int .i64 l.d, .slice A l.ps.length cp]
  have r0 : RRight w A cp l (.int .u32 0) (.int .i64 0) (w.alloc (.cells #[.int .i64 l.d, .slice A l.ps.length cp] 39)) := ⟨0, 0, Nat.zero_le _, rfl, rfl, rfl, k0, hp.below b0, b0⟩
  clear hp k0
  by_cases h1 : l.d < 1
  · have HF := Lib.hid (show rightB l = false by unfold rightB; rw [decide_eq_false (p := 1 ≤ l.d) (by omega)]; rfl)
    have d1 : decide (l.d < 1) = true := by simpa using h1
    clear r0
    go_enter Try.func49, Try.ntmps49
    go_wp2_with fail
    go_ret
    exact ⟨ret_bool HF.out.symm, b0⟩
  have d1 : decide (l.d < 1) = false := by simpa using h1
  by_cases h2 : 4 < l.d
  · have HF := Lib.hid (show rightB l = false by unfold rightB; rw [decide_eq_false (p := l.d ≤ 4) (by omega)]; simp)
    have d2 : decide (l.d > 4) = true := by simpa using h2
    clear r0
    go_enter Try.func49, Try.ntmps49
    go_wp2_with fail
    go_ret
    exact ⟨ret_bool HF.out.symm, b0⟩
  have d2 : decide (l.d > 4) = false := by simpa using h2
  by_cases h3 : 12 < l.ps.length
  · have HF := Lib.hid (show rightB l = false by unfold rightB; rw [decide_eq_false (p := l.ps.length ≤ 12) (by omega)]; simp)
    have d3 : decide ((l.ps.length : Int) > 12) = true := by simp; omega
    clear r0
    go_enter Try.func49, Try.ntmps49
    go_wp2_with fail
    go_ret
    exact ⟨ret_bool HF.out.symm, b0⟩
  have d3 : decide ((l.ps.length : Int) > 12) = false := by simp; omega
  have HT := Lib.hid (show rightP l.d 0 l.ps = rightB l by
    unfold rightB
    rw [decide_eq_true (p := 1 ≤ l.d) (by omega), decide_eq_true (p := l.d ≤ 4) (by omega), decide_eq_true (p := l.ps.length ≤ 12) (by omega)]; simp)
  clear h1 h2 h3 b0
  go_enter Try.func49, Try.ntmps49
  go_wp2_with fail
  generalize w.alloc (.cells #[.int .i64 l.d, .slice A l.ps.length cp] 39) = w1 at *
  clear d1 d2 d3
  go_loopw [3, 23] (fun v3 vi wr => RRight w A cp l v3 vi wr) (fun _ vi _ => l.ps.length - (intOf vi).toNat)
  case atStart => exact r0
  case round =>
    clear r0
    obtain ⟨k, last, hk, rfl, rfl, he, kb, hp, hb⟩ := hrel
    by_cases hlt : k < l.ps.length
    · rw [List.drop_eq_getElem_cons hlt] at he
      have PA := Lib.hid hp
      obtain ⟨b, off, rfl, hbB, hc⟩ := hp (by omega)
      obtain ⟨c0, c1⟩ := hc k hlt
      have hbs := hb.size
      generalize l.ps[k] = pr at *
      obtain ⟨cat, lev⟩ := pr
      simp only at c0 c1
      have HE := Lib.hid he
      have b2 := hb.alloc hbs (.cells #[.int .u32 cat, .int .i64 lev] 90)
      have k2 := kb.alloc (.cells #[.int .u32 cat, .int .i64 lev] 90)
      have K2 := Lib.hid k2
      have e0 := k2.cell 0
      simp at e0
      clear hc hp hb kb k2 he
      by_cases m1 : cat ≤ last
      · have q0 : decide (cat ≤ last) = true := by simpa using m1
        have HF := Lib.hid (show rightB l = false by rw [← HT.out, ← HE.out, rightP, decide_eq_false (p := last < cat) (by omega)]; simp)
        clear PA K2 m1
        go_wp2_with fail
        go_ret
        exact ⟨ret_bool HF.out.symm, b2⟩
      have q0 : decide (cat ≤ last) = false := by simpa using m1
      by_cases m2 : 1073741824 < cat
      · have q1 : decide (cat > 1073741824) = true := by simpa using m2
        have HF := Lib.hid (show rightB l = false by rw [← HT.out, ← HE.out, rightP, decide_eq_false (p := cat ≤ 1073741824) (by omega)]; simp)
        clear PA K2 m2
        go_wp2_with fail
        go_ret
        exact ⟨ret_bool HF.out.symm, b2⟩
      have q1 : decide (cat > 1073741824) = false := by simpa using m2
      by_cases m3 : lev < 0
      · have q2 : decide (lev < 0) = true := by simpa using m3
        have HF := Lib.hid (show rightB l = false by rw [← HT.out, ← HE.out, rightP, decide_eq_false (p := 0 ≤ lev) (by omega)]; simp)
        clear PA K2 m3
        go_wp2_with fail
        go_ret
        exact ⟨ret_bool HF.out.symm, b2⟩
      have q2 : decide (lev < 0) = false := by simpa using m3
      by_cases m4 : 4 < lev
      · have q3 : decide (lev > 4) = true := by simpa using m4
        have HF := Lib.hid (show rightB l = false by rw [← HT.out, ← HE.out, rightP, decide_eq_false (p := lev ≤ 4) (by omega)]; simp)
        clear PA K2 m4
        go_wp2_with fail
        go_ret
        exact ⟨ret_bool HF.out.symm, b2⟩
      have q3 : decide (lev > 4) = false := by simpa using m4
      by_cases m5 : lev = l.d
      · have q4 : (lev == l.d) = true := by simpa using m5
        have HF := Lib.hid (show rightB l = false by rw [← HT.out, ← HE.out, rightP, decide_eq_false (p := lev ≠ l.d) (by simpa using m5)]; simp)
        clear PA K2 m5
        go_wp2_with fail
        go_ret
        exact ⟨ret_bool HF.out.symm, b2⟩
      have q4 : (lev == l.d) = false := by simpa using m5
      have HN := Lib.hid (show rightP l.d cat (l.ps.drop (k + 1)) = rightP l.d 0 l.ps by
        rw [← HE.out, rightP, decide_eq_true (p := last < cat) (by omega), decide_eq_true (p := cat ≤ 1073741824) (by omega), decide_eq_true (p := 0 ≤ lev) (by omega), decide_eq_true (p := lev ≤ 4) (by omega), decide_eq_true (p := lev ≠ l.d) m5]; simp)
      have HB := Lib.hid b2
      clear m1 m2 m3 m4 m5 b2
      go_wp2_with fail
      go_roundw
      case rel => exact ⟨k + 1, cat, by omega, by go_num, rfl, HN.out, K2.out, PA.out.alloc (by omega) _, HB.out⟩
      case measure => simp [intOf]; omega
    · have HF := Lib.hid (show rightB l = true by rw [← HT.out, ← he, List.drop_eq_nil_of_le (by omega)]; rfl)
      clear he kb hp
      go_wp2_with fail
      go_ret
      exact ⟨ret_bool HF.out.symm, hb⟩
end Go.Proofs.Ytihddficgpjgpaa
