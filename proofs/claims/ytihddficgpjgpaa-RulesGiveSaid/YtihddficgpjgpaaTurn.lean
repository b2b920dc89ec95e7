/- Joins, meets, and labels with a level put for another one. -/
import Derived.Test.YtihddficgpjgpaaMerge
namespace Go.Proofs.Ytihddficgpjgpaa
open Go.RowKit Go.ChangeShapes Go.WideShapes Go.Shelf

theorem max_any (x y : Int) (w : World) : Calls Try.prog 109 #[.int .i64 x, .int .i64 y] w fun e w' => e = .returned (.int .i64 (max x y)) ∧ w = w' := by
  go_enter Try.func109, Try.ntmps109
  go_wp2
  all_goals
    go_ret
    exact ⟨ret_int (by omega), rfl⟩
theorem min_any (x y : Int) (w : World) : Calls Try.prog 110 #[.int .i64 x, .int .i64 y] w fun e w' => e = .returned (.int .i64 (min x y)) ∧ w = w' := by
  go_enter Try.func110, Try.ntmps110
  go_wp2
  all_goals
    go_ret
    exact ⟨ret_int (by omega), rfl⟩
theorem turned1_any (x y f t : Int) (gf gt : Nat) (w : World) (hf : Blk w gf 3 #[.int .i64 f]) (ht : Blk w gt 3 #[.int .i64 t]) :
    Calls Try.prog 129 #[.int .i64 x, .int .i64 y, .pointer (some ⟨gf, 0, none⟩), .pointer (some ⟨gt, 0, none⟩)] w fun e w' => e = .returned (.int .i64 (turnF f t x)) ∧ w = w' := by
  have e0 := hf.cell 0
  have e1 := ht.cell 0
  simp at e0 e1
  clear hf ht
  by_cases h : x = f
  · have hb : (x == f) = true := by simpa using h
    have HF := Lib.hid (show turnF f t x = t by unfold turnF; rw [if_pos h])
    clear h
    go_enter Try.func129, Try.ntmps129
    go_wp2
    go_ret
    exact ⟨ret_int HF.out.symm, rfl⟩
  · have hb : (x == f) = false := by simpa using h
    have HF := Lib.hid (show turnF f t x = x by unfold turnF; rw [if_neg h])
    clear h
    go_enter Try.func129, Try.ntmps129
    go_wp2
    go_ret
    exact ⟨ret_int HF.out.symm, rfl⟩

theorem PairsAt.set {W : World} {B g i n c : Nat} {A A' : Option Addr} {l : List (Int × Int)} {d : Int} (h : PairsAt W B A l) (k : Blk W g 39 #[.int .i64 d, .slice A' n c]) (u : Value) : PairsAt (W.setCell ⟨g, i, none⟩ u) B A l := fun hl => by
  obtain ⟨b, off, e, hb, hc⟩ := h hl
  have hne : b ≠ g := by
    rintro rfl
    have h0 := (hc 0 hl).1
    rw [k.cell] at h0
    rcases off with _ | _ | off <;> simp at h0
  exact ⟨b, off, e, hb, fun j hj => ⟨(World.cell?_setCell_other _ _ _ _ (by intro e; injection e with e1 e2; exact hne e1.symm)).trans (hc j hj).1, (World.cell?_setCell_other _ _ _ _ (by intro e; injection e with e1 e2; exact hne e1.symm)).trans (hc j hj).2⟩⟩

/-- A label stored into the variable of the result. -/
structure Stored (w W : World) (g : Nat) (l : Lab) (A : Option Addr) (c : Nat) : Prop where
  blk : Blk ((W.setCell ⟨g, 0, none⟩ (.int .i64 l.d)).setCell ⟨g, 1, none⟩ (.slice A l.ps.length c)) g 39 #[.int .i64 l.d, .slice A l.ps.length c]
  lab : LabV ((W.setCell ⟨g, 0, none⟩ (.int .i64 l.d)).setCell ⟨g, 1, none⟩ (.slice A l.ps.length c)) ((W.setCell ⟨g, 0, none⟩ (.int .i64 l.d)).setCell ⟨g, 1, none⟩ (.slice A l.ps.length c)).heap.size (.agg #[.int .i64 l.d, .slice A l.ps.length c]) l
  bl : Below w.heap.size w ((W.setCell ⟨g, 0, none⟩ (.int .i64 l.d)).setCell ⟨g, 1, none⟩ (.slice A l.ps.length c))
theorem stored_of {w W : World} {g n c c' : Nat} {d : Int} {A A' : Option Addr} {l : Lab} (k : Blk W g 39 #[.int .i64 d, .slice A' n c']) (hp : PairsAt W W.heap.size A l.ps) (hc : l.ps.length ≤ c) (hb : Below w.heap.size w W) (hg : w.heap.size ≤ g) : Stored w W g l A c := by
  have k1 : Blk (W.setCell ⟨g, 0, none⟩ (.int .i64 l.d)) g 39 #[.int .i64 l.d, .slice A' n c'] := k.set_ 0 _
  refine ⟨k1.set_ 1 _, ⟨A, c, rfl, ?_, hc⟩, (hb.setCell (p := ⟨g, 0, none⟩) hg _).setCell (p := ⟨g, 1, none⟩) hg _⟩
  refine ((hp.set k _).set k1 _).more ?_
  simp [World.setCell]

theorem enters109 : ∀ args w, (callFunc 109 args).run Try.prog w = .ok (.enter 109 args) w := enters_of Try.func109 (by kernel_rfl) rfl
theorem enters110 : ∀ args w, (callFunc 110 args).run Try.prog w = .ok (.enter 110 args) w := enters_of Try.func110 (by kernel_rfl) rfl
theorem enters129 : ∀ args w, (callFunc 129 args).run Try.prog w = .ok (.enter 129 args) w := enters_of Try.func129 (by kernel_rfl) rfl

set_option maxRecDepth 100000 in
set_option maxHeartbeats 400000 in
theorem join_any (va vb : Value) (a b : Lab) (w : World) (ha : LabV w w.heap.size va a) (hb : LabV w w.heap.size vb b) (hga : Good a) (hgb : Good b) (hl : a.ps.length + b.ps.length ≤ 100000) :
    Calls Try.prog 58 #[va, vb] w fun e w' => ∃ v, e = .returned v ∧ LabV w' w'.heap.size v (joinL a b) ∧ Below w.heap.size w w' := by
  obtain ⟨Aa, ca, rfl, pa, la⟩ := ha
  obtain ⟨Ab, cb, rfl, pb, lb⟩ := hb
  go_enter Try.func58, Try.ntmps58
  go_wp2_with fail
  have b0 := ((Below.refl w.heap.size w).alloc (Nat.le_refl _) (.cells #[.int .i64 a.d, .slice Aa a.ps.length ca] 39)).alloc (by simp) (.cells #[.int .i64 b.d, .slice Ab b.ps.length cb] 39)
  have s0 : ((w.alloc (.cells #[.int .i64 a.d, .slice Aa a.ps.length ca] 39)).alloc (.cells #[.int .i64 b.d, .slice Ab b.ps.length cb] 39)).heap.size = w.heap.size + 1 + 1 := by simp
  generalize (w.alloc (.cells #[.int .i64 a.d, .slice Aa a.ps.length ca] 39)).alloc (.cells #[.int .i64 b.d, .slice Ab b.ps.length cb] 39) = w2 at *
  have k3 := Blk.new w2 39 #[.int .i64 0, .slice none 0 0]
  have b3 := b0.alloc b0.size (.cells #[.int .i64 0, .slice none 0 0] 39)
  rw [s0] at k3
  generalize w2.alloc (.cells #[.int .i64 0, .slice none 0 0] 39) = w3 at *
  refine (merge_any 109 #[] enters109 max _ _ a b _ ⟨Aa, ca, rfl, (pa.below b3).more b3.size, la⟩ ⟨Ab, cb, rfl, (pb.below b3).more b3.size, lb⟩ hga hgb hl (fun x y W _ => max_any x y W)).mono ?_
  rintro e W ⟨v, rfl, ⟨A, c, rfl, p, hc⟩, hbW⟩
  have k := k3.below hbW k3.lt
  have hS := stored_of (l := mergeL max a b) k p hc (b3.trans (hbW.mono b3.size)) (by omega)
  have HS := Lib.hid hS
  have e2 := k.cell 0
  have e3 := k.cell 1
  have f2 := k.frozen 0
  have f3 := k.frozen 1
  simp at e2 e3
  clear hS k p pa pb la lb hc k3 hbW b3 b0
  go_wp2
  refine bodyPost_ret (results_cell_row rfl _ _ (w.heap.size + 1 + 1) 39 #[.int .i64 (mergeL max a b).d, .slice A (mergeL max a b).ps.length c] (0, 0) _ (by rfl) HS.out.blk Try.underlying39 rfl (by kernel_rfl)) rfl ?_
  exact ⟨_, rfl, HS.out.lab, HS.out.bl⟩

set_option maxRecDepth 100000 in
set_option maxHeartbeats 400000 in
theorem meet_any (va vb : Value) (a b : Lab) (w : World) (ha : LabV w w.heap.size va a) (hb : LabV w w.heap.size vb b) (hga : Good a) (hgb : Good b) (hl : a.ps.length + b.ps.length ≤ 100000) :
    Calls Try.prog 59 #[va, vb] w fun e w' => ∃ v, e = .returned v ∧ LabV w' w'.heap.size v (meetL a b) ∧ Below w.heap.size w w' := by
  obtain ⟨Aa, ca, rfl, pa, la⟩ := ha
  obtain ⟨Ab, cb, rfl, pb, lb⟩ := hb
  go_enter Try.func59, Try.ntmps59
  go_wp2_with fail
  have b0 := ((Below.refl w.heap.size w).alloc (Nat.le_refl _) (.cells #[.int .i64 a.d, .slice Aa a.ps.length ca] 39)).alloc (by simp) (.cells #[.int .i64 b.d, .slice Ab b.ps.length cb] 39)
  have s0 : ((w.alloc (.cells #[.int .i64 a.d, .slice Aa a.ps.length ca] 39)).alloc (.cells #[.int .i64 b.d, .slice Ab b.ps.length cb] 39)).heap.size = w.heap.size + 1 + 1 := by simp
  generalize (w.alloc (.cells #[.int .i64 a.d, .slice Aa a.ps.length ca] 39)).alloc (.cells #[.int .i64 b.d, .slice Ab b.ps.length cb] 39) = w2 at *
  have k3 := Blk.new w2 39 #[.int .i64 0, .slice none 0 0]
  have b3 := b0.alloc b0.size (.cells #[.int .i64 0, .slice none 0 0] 39)
  rw [s0] at k3
  generalize w2.alloc (.cells #[.int .i64 0, .slice none 0 0] 39) = w3 at *
  refine (merge_any 110 #[] enters110 min _ _ a b _ ⟨Aa, ca, rfl, (pa.below b3).more b3.size, la⟩ ⟨Ab, cb, rfl, (pb.below b3).more b3.size, lb⟩ hga hgb hl (fun x y W _ => min_any x y W)).mono ?_
  rintro e W ⟨v, rfl, ⟨A, c, rfl, p, hc⟩, hbW⟩
  have k := k3.below hbW k3.lt
  have hS := stored_of (l := mergeL min a b) k p hc (b3.trans (hbW.mono b3.size)) (by omega)
  have HS := Lib.hid hS
  have e2 := k.cell 0
  have e3 := k.cell 1
  have f2 := k.frozen 0
  have f3 := k.frozen 1
  simp at e2 e3
  clear hS k p pa pb la lb hc k3 hbW b3 b0
  go_wp2
  refine bodyPost_ret (results_cell_row rfl _ _ (w.heap.size + 1 + 1) 39 #[.int .i64 (mergeL min a b).d, .slice A (mergeL min a b).ps.length c] (0, 0) _ (by rfl) HS.out.blk Try.underlying39 rfl (by kernel_rfl)) rfl ?_
  exact ⟨_, rfl, HS.out.lab, HS.out.bl⟩


set_option maxRecDepth 100000 in
set_option maxHeartbeats 400000 in
theorem turned_any (va : Value) (a : Lab) (f t : Int) (w : World) (ha : LabV w w.heap.size va a) (hga : Good a) (hl : a.ps.length ≤ 50000) :
    Calls Try.prog 111 #[va, .int .i64 f, .int .i64 t] w fun e w' => ∃ v, e = .returned v ∧ LabV w' w'.heap.size v (turnL f t a) ∧ Below w.heap.size w w' := by
  obtain ⟨Aa, ca, rfl, pa, la⟩ := ha
  go_enter Try.func111, Try.ntmps111
  go_wp2_with fail
  have b0 := ((Below.refl w.heap.size w).alloc (Nat.le_refl _) (.cells #[.int .i64 a.d, .slice Aa a.ps.length ca] 39))
  have s0 : (w.alloc (.cells #[.int .i64 a.d, .slice Aa a.ps.length ca] 39)).heap.size = w.heap.size + 1 := by simp
  generalize w.alloc (.cells #[.int .i64 a.d, .slice Aa a.ps.length ca] 39) = w1 at *
  have k1 := Blk.new w1 3 #[.int .i64 f]
  have b1 := b0.alloc b0.size (.cells #[.int .i64 f] 3)
  have s1 : (w1.alloc (.cells #[.int .i64 f] 3)).heap.size = w.heap.size + 1 + 1 := by simp [s0]
  rw [s0] at k1
  generalize w1.alloc (.cells #[.int .i64 f] 3) = w2 at *
  have k2 := Blk.new w2 3 #[.int .i64 t]
  have b2 := b1.alloc b1.size (.cells #[.int .i64 t] 3)
  have s2 : (w2.alloc (.cells #[.int .i64 t] 3)).heap.size = w.heap.size + 1 + 1 + 1 := by simp [s1]
  have j1 := k1.alloc (.cells #[.int .i64 t] 3)
  rw [s1] at k2
  generalize w2.alloc (.cells #[.int .i64 t] 3) = w3 at *
  have k3 := Blk.new w3 39 #[.int .i64 0, .slice none 0 0]
  have b3 := b2.alloc b2.size (.cells #[.int .i64 0, .slice none 0 0] 39)
  have i1 := j1.alloc (.cells #[.int .i64 0, .slice none 0 0] 39)
  have i2 := k2.alloc (.cells #[.int .i64 0, .slice none 0 0] 39)
  rw [s2] at k3
  generalize w3.alloc (.cells #[.int .i64 0, .slice none 0 0] 39) = w4 at *
  clear j1 k1 k2 b0 b1 b2 s0 s1 s2
  have hf : ∀ x y W, Below w4.heap.size w4 W → Calls Try.prog 129 (#[.int .i64 x, .int .i64 y] ++ #[.pointer (some ⟨w.heap.size + 1, 0, none⟩), .pointer (some ⟨w.heap.size + 1 + 1, 0, none⟩)]) W fun e w' => e = .returned (.int .i64 (turnF f t x)) ∧ W = w' :=
    fun x y W hW => turned1_any x y f t _ _ W (i1.below hW i1.lt) (i2.below hW i2.lt)
  have HM := Lib.hid (merge_any 129 _ enters129 (fun x _ => turnF f t x) _ _ a a _ ⟨Aa, ca, rfl, (pa.below b3).more b3.size, la⟩ ⟨Aa, ca, rfl, (pa.below b3).more b3.size, la⟩ hga hga (by omega) hf)
  clear hf
  refine HM.out.mono ?_
  clear HM
  rintro e W ⟨v, rfl, ⟨A, c, rfl, p, hc⟩, hbW⟩
  have k := k3.below hbW k3.lt
  have hS := stored_of (l := turnL f t a) k p hc (b3.trans (hbW.mono b3.size)) (by omega)
  have HS := Lib.hid hS
  have e2 := k.cell 0
  have e3 := k.cell 1
  have f2 := k.frozen 0
  have f3 := k.frozen 1
  simp at e2 e3
  have hd : mergeL (fun x _ => turnF f t x) a a = turnL f t a := rfl
  rw [hd]
  clear hS k p pa la hc k3 hbW b3 i1 i2 hd
  go_wp2
  refine bodyPost_ret (results_cell_row rfl _ _ (w.heap.size + 1 + 1 + 1) 39 #[.int .i64 (turnL f t a).d, .slice A (turnL f t a).ps.length c] (0, 0) _ (by rfl) HS.out.blk Try.underlying39 rfl (by kernel_rfl)) rfl ?_
  exact ⟨_, rfl, HS.out.lab, HS.out.bl⟩

set_option maxRecDepth 100000 in
set_option maxHeartbeats 400000 in
theorem raise_any (va : Value) (a : Lab) (w : World) (ha : LabV w w.heap.size va a) (hga : Good a) (hl : a.ps.length ≤ 50000) :
    Calls Try.prog 74 #[va] w fun e w' => ∃ v, e = .returned v ∧ LabV w' w'.heap.size v (raiseL a) ∧ Below w.heap.size w w' := by
  obtain ⟨Aa, ca, rfl, pa, la⟩ := ha
  go_enter Try.func74, Try.ntmps74
  go_wp2_with fail
  have b0 := ((Below.refl w.heap.size w).alloc (Nat.le_refl _) (.cells #[.int .i64 a.d, .slice Aa a.ps.length ca] 39))
  have s0 : (w.alloc (.cells #[.int .i64 a.d, .slice Aa a.ps.length ca] 39)).heap.size = w.heap.size + 1 := by simp
  generalize w.alloc (.cells #[.int .i64 a.d, .slice Aa a.ps.length ca] 39) = w2 at *
  have k3 := Blk.new w2 39 #[.int .i64 0, .slice none 0 0]
  have b3 := b0.alloc b0.size (.cells #[.int .i64 0, .slice none 0 0] 39)
  rw [s0] at k3
  generalize w2.alloc (.cells #[.int .i64 0, .slice none 0 0] 39) = w3 at *
  refine (turned_any _ a _ _ _ ⟨Aa, ca, rfl, (pa.below b3).more b3.size, la⟩ hga hl).mono ?_
  rintro e W ⟨v, rfl, ⟨A, c, rfl, p, hc⟩, hbW⟩
  have k := k3.below hbW k3.lt
  have hS := stored_of (l := raiseL a) k p hc (b3.trans (hbW.mono b3.size)) (by omega)
  have HS := Lib.hid hS
  have e2 := k.cell 0
  have e3 := k.cell 1
  have f2 := k.frozen 0
  have f3 := k.frozen 1
  simp at e2 e3
  have hd : turnL 0 5 a = raiseL a := rfl
  rw [hd]
  clear hS k p pa la hc k3 hbW b3 b0 hd
  go_wp2
  refine bodyPost_ret (results_cell_row rfl _ _ (w.heap.size + 1) 39 #[.int .i64 (raiseL a).d, .slice A (raiseL a).ps.length c] (0, 0) _ (by rfl) HS.out.blk Try.underlying39 rfl (by kernel_rfl)) rfl ?_
  exact ⟨_, rfl, HS.out.lab, HS.out.bl⟩

set_option maxRecDepth 100000 in
set_option maxHeartbeats 400000 in
theorem lower_any (va : Value) (a : Lab) (w : World) (ha : LabV w w.heap.size va a) (hga : Good a) (hl : a.ps.length ≤ 50000) :
    Calls Try.prog 78 #[va] w fun e w' => ∃ v, e = .returned v ∧ LabV w' w'.heap.size v (lowerL a) ∧ Below w.heap.size w w' := by
  obtain ⟨Aa, ca, rfl, pa, la⟩ := ha
  go_enter Try.func78, Try.ntmps78
  go_wp2_with fail
  have b0 := ((Below.refl w.heap.size w).alloc (Nat.le_refl _) (.cells #[.int .i64 a.d, .slice Aa a.ps.length ca] 39))
  have s0 : (w.alloc (.cells #[.int .i64 a.d, .slice Aa a.ps.length ca] 39)).heap.size = w.heap.size + 1 := by simp
  generalize w.alloc (.cells #[.int .i64 a.d, .slice Aa a.ps.length ca] 39) = w2 at *
  have k3 := Blk.new w2 39 #[.int .i64 0, .slice none 0 0]
  have b3 := b0.alloc b0.size (.cells #[.int .i64 0, .slice none 0 0] 39)
  rw [s0] at k3
  generalize w2.alloc (.cells #[.int .i64 0, .slice none 0 0] 39) = w3 at *
  refine (turned_any _ a _ _ _ ⟨Aa, ca, rfl, (pa.below b3).more b3.size, la⟩ hga hl).mono ?_
  rintro e W ⟨v, rfl, ⟨A, c, rfl, p, hc⟩, hbW⟩
  have k := k3.below hbW k3.lt
  have hS := stored_of (l := lowerL a) k p hc (b3.trans (hbW.mono b3.size)) (by omega)
  have HS := Lib.hid hS
  have e2 := k.cell 0
  have e3 := k.cell 1
  have f2 := k.frozen 0
  have f3 := k.frozen 1
  simp at e2 e3
  have hd : turnL 5 0 a = lowerL a := rfl
  rw [hd]
  clear hS k p pa la hc k3 hbW b3 b0 hd
  go_wp2
  refine bodyPost_ret (results_cell_row rfl _ _ (w.heap.size + 1) 39 #[.int .i64 (lowerL a).d, .slice A (lowerL a).ps.length c] (0, 0) _ (by rfl) HS.out.blk Try.underlying39 rfl (by kernel_rfl)) rfl ?_
  exact ⟨_, rfl, HS.out.lab, HS.out.bl⟩

set_option maxRecDepth 100000 in
set_option maxHeartbeats 400000 in
theorem rest_any (va : Value) (a : Lab) (w : World) (ha : LabV w w.heap.size va a) (hga : Good a) (hl : a.ps.length ≤ 50000) :
    Calls Try.prog 63 #[va] w fun e w' => ∃ v, e = .returned v ∧ LabV w' w'.heap.size v (restL a) ∧ Below w.heap.size w w' := by
  obtain ⟨Aa, ca, rfl, pa, la⟩ := ha
  go_enter Try.func63, Try.ntmps63
  go_wp2_with fail
  have b0 := ((Below.refl w.heap.size w).alloc (Nat.le_refl _) (.cells #[.int .i64 a.d, .slice Aa a.ps.length ca] 39))
  have s0 : (w.alloc (.cells #[.int .i64 a.d, .slice Aa a.ps.length ca] 39)).heap.size = w.heap.size + 1 := by simp
  generalize w.alloc (.cells #[.int .i64 a.d, .slice Aa a.ps.length ca] 39) = w2 at *
  have k3 := Blk.new w2 39 #[.int .i64 0, .slice none 0 0]
  have b3 := b0.alloc b0.size (.cells #[.int .i64 0, .slice none 0 0] 39)
  rw [s0] at k3
  generalize w2.alloc (.cells #[.int .i64 0, .slice none 0 0] 39) = w3 at *
  refine (turned_any _ a _ _ _ ⟨Aa, ca, rfl, (pa.below b3).more b3.size, la⟩ hga hl).mono ?_
  rintro e W ⟨v, rfl, ⟨A, c, rfl, p, hc⟩, hbW⟩
  have k := k3.below hbW k3.lt
  have hS := stored_of (l := restL a) k p hc (b3.trans (hbW.mono b3.size)) (by omega)
  have HS := Lib.hid hS
  have e2 := k.cell 0
  have e3 := k.cell 1
  have f2 := k.frozen 0
  have f3 := k.frozen 1
  simp at e2 e3
  have hd : turnL 0 2 a = restL a := rfl
  rw [hd]
  clear hS k p pa la hc k3 hbW b3 b0 hd
  go_wp2
  refine bodyPost_ret (results_cell_row rfl _ _ (w.heap.size + 1) 39 #[.int .i64 (restL a).d, .slice A (restL a).ps.length c] (0, 0) _ (by rfl) HS.out.blk Try.underlying39 rfl (by kernel_rfl)) rfl ?_
  exact ⟨_, rfl, HS.out.lab, HS.out.bl⟩

theorem of_any (d : Int) (w : World) : Calls Try.prog 60 #[.int .i64 d] w fun e w' => ∃ v, e = .returned v ∧ LabV w' w'.heap.size v ⟨d, []⟩ ∧ Below w.heap.size w w' := by
  have b1 := (Below.refl w.heap.size w)
  go_enter Try.func60, Try.ntmps60
  go_wp2
  have K := Blk.new w 39 #[.int .i64 d, .slice none 0 0]
  refine bodyPost_ret (results_cell_row rfl _ _ w.heap.size 39 #[.int .i64 d, .slice none 0 0] (0, 0) _ (by rfl) K Try.underlying39 rfl (by kernel_rfl)) rfl ?_
  exact ⟨_, rfl, ⟨none, 0, rfl, PairsAt.nil _ _ _, Nat.le_refl _⟩, b1.alloc (Nat.le_refl _) _⟩
theorem good_of (d : Int) : Good ⟨d, []⟩ := ⟨True.intro, by simp⟩

end Go.Proofs.Ytihddficgpjgpaa
