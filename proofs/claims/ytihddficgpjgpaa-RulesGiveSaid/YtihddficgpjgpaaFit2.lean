/- The example of layer 2, and a seed's label. -/
import Derived.Test.YtihddficgpjgpaaRight
import Derived.Test.YtihddficgpjgpaaWith
import Derived.Test.YtihddficgpjgpaaLeq
import Derived.Test.YtihddficgpjgpaaOwns
namespace Go.Proofs.Ytihddficgpjgpaa
open Go.RowKit Go.ChangeShapes Go.WideShapes Go.Shelf

theorem LabB.new (w : World) {A : Option Addr} {c B : Nat} {l : Lab} (hp : PairsAt w B A l.ps) (hB : B ≤ w.heap.size) (hc : l.ps.length ≤ c) : LabB (w.alloc (.cells #[.int .i64 l.d, .slice A l.ps.length c] 39)) w.heap.size B l :=
  ⟨A, c, Blk.new w 39 _, hp.alloc hB _, hc⟩

set_option maxRecDepth 100000 in
set_option maxHeartbeats 800000 in
theorem fit02 (w : World) : Calls Try.prog 48 #[] w fun e w' => e = .returned (.bool true) ∧ Below w.heap.size w w' := by
  go_enter Try.func48, Try.ntmps48
  go_wp2_with fail
  refine (of_any 2 _).mono ?_
  rintro e w1 ⟨v1, rfl, h1, b1⟩
  go_wp2_with fail
  refine (of_any 2 _).mono ?_
  rintro e w2 ⟨v2, rfl, h2, b2⟩
  have h1 := h1.below b2 (Nat.le_refl _)
  have b12 := b1.trans (b2.mono b1.size)
  go_wp2_with fail
  refine (with_any _ ⟨2, []⟩ 7 4 _ h2 (by simp) (good_of 2)).mono ?_
  rintro e w3 ⟨v3, rfl, h3, b3⟩
  have h1 := (h1.below b3 b2.size).more (Nat.le_trans b2.size b3.size)
  have b13 := b12.trans (b3.mono b12.size)
  have g3 : Good (withL ⟨2, []⟩ 7 4) := good_with (good_of 2) (by omega) 4
  have e3 : withL ⟨2, []⟩ 7 4 = ⟨2, [(7, 4)]⟩ := rfl
  rw [e3] at h3 g3
  clear h2 b1 b2 b3 b12 e3
  obtain ⟨A1, c1, rfl, p1, l1⟩ := h1
  obtain ⟨A3, c3, rfl, p3, l3⟩ := h3
  have k1 := (Blk.new w3 39 #[.int .i64 2, .slice A1 0 c1]).alloc (.cells #[.int .i64 2, .slice A3 1 c3] 39)
  have k3 := Blk.new (w3.alloc (.cells #[.int .i64 2, .slice A1 0 c1] 39)) 39 #[.int .i64 2, .slice A3 1 c3]
  rw [World.size_alloc] at k3
  have b4 := ((Below.refl w3.heap.size w3).alloc (Nat.le_refl _) (.cells #[.int .i64 2, .slice A1 0 c1] 39)).alloc (by simp) (.cells #[.int .i64 2, .slice A3 1 c3] 39)
  have p14 := p1.below b4
  have p34 := p3.below b4
  have HB := Lib.hid (b13.trans (b4.mono b13.size))
  have hz := b4.size
  clear p1 p3 b13 b4
  go_wp2_with fail
  generalize (w3.alloc (.cells #[.int .i64 2, .slice A1 0 c1] 39)).alloc (.cells #[.int .i64 2, .slice A3 1 c3] 39) = w4 at *
  have V1 : ∀ W, Below w4.heap.size w4 W → LabV W W.heap.size (.agg #[.int .i64 2, .slice A1 0 c1]) ⟨2, []⟩ := fun W hW => ⟨A1, c1, rfl, (p14.keep (w' := W) (fun p hp => hW.cell (by omega))).more (by have := hW.size; omega), l1⟩
  have V3 : ∀ W, Below w4.heap.size w4 W → LabV W W.heap.size (.agg #[.int .i64 2, .slice A3 1 c3]) ⟨2, [(7, 4)]⟩ := fun W hW => ⟨A3, c3, rfl, (p34.keep (w' := W) (fun p hp => hW.cell (by omega))).more (by have := hW.size; omega), l3⟩
  have HV1 := Lib.hid V1
  have HV3 := Lib.hid V3
  have q1 : rightB ⟨2, [(7, 4)]⟩ = true := by decide
  have q2 : leqB ⟨2, []⟩ ⟨2, [(7, 4)]⟩ = true := (leqB_iff (good_of 2) g3).2 (fun c => by
    show (2 : Int) ≤ if 7 = c then 4 else 2
    split <;> omega)
  have q3 : leqB ⟨2, [(7, 4)]⟩ ⟨2, []⟩ = false := by
    cases h : leqB ⟨2, [(7, 4)]⟩ ⟨2, []⟩ with
    | false => rfl
    | true =>
      have := (leqB_iff g3 (good_of 2)).1 h 7
      exact absurd this (by decide)
  have HQ1 := Lib.hid q1
  have HQ2 := Lib.hid q2
  have HQ3 := Lib.hid q3
  have HG3 := Lib.hid g3
  clear V1 V3 p14 p34 l1 l3 q1 q2 q3 g3
  refine (right_any _ _ _ (HV3.out _ (Below.refl _ _)) (by simp)).mono ?_
  rintro e w5 ⟨rfl, b5⟩
  rw [HQ1.out]
  have HB5 := Lib.hid b5
  have j1 := k1.below b5 k1.lt
  have j3 := k3.below b5 k3.lt
  have e10 := j1.cell 0
  have e11 := j1.cell 1
  have e30 := j3.cell 0
  have e31 := j3.cell 1
  simp at e10 e11 e30 e31
  clear b5 k1 k3
  go_wp2_with fail
  refine (leq_any _ _ _ _ _ (HV1.out _ HB5.out) (HV3.out _ HB5.out) (by simp)).mono ?_
  rintro e w6 ⟨rfl, b6⟩
  rw [HQ2.out]
  have HB6 := Lib.hid (HB5.out.trans (b6.mono HB5.out.size))
  have k1 := j1.below b6 j1.lt
  have k3 := j3.below b6 j3.lt
  clear e10 e11 e30 e31 j1 j3 b6
  have e10 := k1.cell 0
  have e11 := k1.cell 1
  have e30 := k3.cell 0
  have e31 := k3.cell 1
  simp at e10 e11 e30 e31
  go_wp2_with fail
  refine (leq_any _ _ _ _ _ (HV3.out _ HB6.out) (HV1.out _ HB6.out) (by simp)).mono ?_
  rintro e w7 ⟨rfl, b7⟩
  rw [HQ3.out]
  have HB7 := Lib.hid (HB6.out.trans (b7.mono HB6.out.size))
  have j3 := k3.below b7 k3.lt
  clear e10 e11 e30 e31 k1 k3 b7
  have e30 := j3.cell 0
  have e31 := j3.cell 1
  simp at e30 e31
  go_wp2_with fail
  refine (at_any _ _ _ _ (HV3.out _ HB7.out) (by simp) HG3.out).mono ?_
  rintro e w8 ⟨rfl, b8⟩
  have hl : (Lab.mk 2 [(7, 4)]).lv 7 = 4 := by decide
  rw [hl]
  have HB8 := Lib.hid (HB7.out.trans (b8.mono HB7.out.size))
  clear e30 e31 j3 b8 hl
  go_wp2_with fail
  go_ret
  exact ⟨rfl, HB.out.trans (HB8.out.mono HB.out.size)⟩
end Go.Proofs.Ytihddficgpjgpaa
