/- label.Leq. -/
import Derived.Test.YtihddficgpjgpaaLeqs
namespace Go.Proofs.Ytihddficgpjgpaa
open Go.RowKit Go.ChangeShapes Go.WideShapes Go.Shelf
attribute [local go_sem] Oper.semAt_some

theorem leqL_all (a b : Lab) : (leqL a b).all (·.2) = leqB a b := by
  unfold leqL leqB
  rw [List.all_map]; rfl

set_option maxRecDepth 100000 in
set_option maxHeartbeats 1600000 in
theorem leq_any (va vb : Value) (a b : Lab) (w : World) (ha : LabV w w.heap.size va a) (hb : LabV w w.heap.size vb b) (hl : a.ps.length + b.ps.length ≤ 100000) :
    Calls Try.prog 57 #[va, vb] w fun e w' => e = .returned (.bool (leqB a b)) ∧ Below w.heap.size w w' := by
  obtain ⟨Aa, ca, rfl, pa, la⟩ := ha
  obtain ⟨Ab, cb, rfl, pb, lb⟩ := hb
  refine (callsIn_wide (n := 9)).1 ?_
  refine callsIn_of_wp_marks Try.func57 rfl trivial ?_ rfl
  simp only [Try.ntmps57, List.size_toArray, List.length_cons, List.length_nil, Nat.reduceAdd, Nat.reduceSub, Array.replicate_succ, Array.replicate_zero, List.push_toArray, List.append_toArray, List.nil_append, List.cons_append]
  gi_wp2
  refine ⟨trivial, ?_⟩
  refine (callsIn_wide.2 (pairs_make _ _ _ _ _ _ _ _ _)).mono ?_
  rintro e w' ⟨rfl, rfl⟩
  have b0 := ((Below.refl w.heap.size w).alloc (Nat.le_refl _) (.cells #[.int .i64 a.d, .slice Aa a.ps.length ca] 39)).alloc (by simp) (.cells #[.int .i64 b.d, .slice Ab b.ps.length cb] 39)
  have s0 : ((w.alloc (.cells #[.int .i64 a.d, .slice Aa a.ps.length ca] 39)).alloc (.cells #[.int .i64 b.d, .slice Ab b.ps.length cb] 39)).heap.size = w.heap.size + 1 + 1 := by simp
  generalize (w.alloc (.cells #[.int .i64 a.d, .slice Aa a.ps.length ca] 39)).alloc (.cells #[.int .i64 b.d, .slice Ab b.ps.length cb] 39) = w2 at *
  have k2 := Blk.new w2 4 #[.bool false]
  have b2 := b0.alloc b0.size (.cells #[.bool false] 4)
  have s2 : (w2.alloc (.cells #[.bool false] 4)).heap.size = w.heap.size + 1 + 1 + 1 := by simp [s0]
  rw [s0] at k2
  generalize w2.alloc (.cells #[.bool false] 4) = w3 at *
  rw [s2]
  have k3 := Blk.new w3 39 #[.int .i64 a.d, .slice Aa a.ps.length ca]
  have b3 := b2.alloc b2.size (.cells #[.int .i64 a.d, .slice Aa a.ps.length ca] 39)
  have s3 : (w3.alloc (.cells #[.int .i64 a.d, .slice Aa a.ps.length ca] 39)).heap.size = w.heap.size + 1 + 1 + 1 + 1 := by simp [s2]
  have j2 := k2.alloc (.cells #[.int .i64 a.d, .slice Aa a.ps.length ca] 39)
  rw [s2] at k3
  generalize w3.alloc (.cells #[.int .i64 a.d, .slice Aa a.ps.length ca] 39) = w4 at *
  have k4 := Blk.new w4 39 #[.int .i64 b.d, .slice Ab b.ps.length cb]
  have b4 := b3.alloc b3.size (.cells #[.int .i64 b.d, .slice Ab b.ps.length cb] 39)
  have s4 : (w4.alloc (.cells #[.int .i64 b.d, .slice Ab b.ps.length cb] 39)).heap.size = w.heap.size + 1 + 1 + 1 + 1 + 1 := by simp [s3]
  have i2 := j2.alloc (.cells #[.int .i64 b.d, .slice Ab b.ps.length cb] 39)
  have i3 := k3.alloc (.cells #[.int .i64 b.d, .slice Ab b.ps.length cb] 39)
  rw [s3] at k4
  generalize w4.alloc (.cells #[.int .i64 b.d, .slice Ab b.ps.length cb] 39) = w5 at *
  clear k2 j2 k3 b0 b2 b3
  have er := i2.cell 0
  have fr := i2.frozen 0
  simp at er
  have hsz : w.heap.size ≤ w5.heap.size := b4.size
  gi_wp2
  refine wpIn_rangeFunc_ownF (F := Fence.wide) rfl (by omega) (gf := 125) (lb := #[.pointer (some ⟨w.heap.size + 1 + 1 + 1, 0, none⟩), .pointer (some ⟨w.heap.size + 1 + 1 + 1 + 1, 0, none⟩)]) rfl trivial enters125
    (pairs1_stops _ _ _ Aa Ab ca cb a b w5 (by omega) (by omega) i3 k4 ((pa.below b4).more hsz) ((pb.below b4).more hsz)) KeptC.trans keptC_b (Below.refl _ _) (fun _ => rfl)
    (fun pre W => (pre.all (·.2) = true ∧ W.cell? ⟨w.heap.size + 1 + 1, 0, none⟩ = some (.bool false) ∧ W.frozen? ⟨w.heap.size + 1 + 1, 0, none⟩ = false) ∧ Below w.heap.size w W)
    (fun c pre W => (c = .ret ∧ pre.all (·.2) = false ∧ W.cell? ⟨w.heap.size + 1 + 1, 0, none⟩ = some (.bool false)) ∧ Below w.heap.size w W)
    (OwnFrom.and (Own.from (fun s A B row hs hg hr => ⟨hs.1, cell_kept hs.2.1 hg hr, (frozen_kept hs.2.1 hg hr).trans hs.2.2⟩) _) (ownFrom_below (Nat.le_refl _) (by omega)))
    (fun c => OwnFrom.and (Own.from (fun s A B row hs hg hr => ⟨hs.1, hs.2.1, cell_kept hs.2.2 hg hr⟩) _) (ownFrom_below (Nat.le_refl _) (by omega)))
    ⟨⟨rfl, er, fr⟩, b4⟩
    (fun x => { tmps := #[.agg #[.int .i64 a.d, .slice Aa a.ps.length ca], .agg #[.int .i64 b.d, .slice Ab b.ps.length cb], .pointer (some ⟨w.heap.size, 0, none⟩), .pointer (some ⟨w.heap.size + 1, 0, none⟩), .pointer (some ⟨w.heap.size + 1 + 1, 0, none⟩), undef, .bool x.2, .agg #[.int .i64 a.d, .slice Aa a.ps.length ca], .agg #[.int .i64 b.d, .slice Ab b.ps.length cb],
      .func (.func 125) #[] #[.pointer (some ⟨w.heap.size + 1 + 1 + 1, 0, none⟩), .pointer (some ⟨w.heap.size + 1 + 1 + 1 + 1, 0, none⟩)], .int .u32 x.1, .bool x.2, undef, undef], defers := [] }) ?assign ?body ?done ?stop
  case assign =>
    intro l x W K hK
    dsimp only [encs2]
    gi_wp2
    exact hK
  case body =>
    rintro l pre ⟨c, ok⟩ W ⟨⟨hp, hcr, hfr⟩, hB⟩ _
    cases ok with
    | true =>
      gi_wp2
      exact ⟨KeepsOthers.refl _, KeptC.refl _, ⟨by simpa using hp, hcr, hfr⟩, hB⟩
    | false =>
      gi_wp2
      exact ⟨KeepsOthers.setCell _ _ _, ⟨rfl, by simp, World.cell?_setCell_same' _ _ _ (by rw [hcr]; rfl)⟩, hB.setCell (p := ⟨w.heap.size + 1 + 1, 0, none⟩) (by show _ ≤ w.heap.size + 1 + 1; omega) _⟩
  case done =>
    rintro D ys W hD rfl ⟨⟨hp, hcr, hfr⟩, hB⟩ hK
    gi_wp2
    have hK' := (KeepsOthers.setCell W ⟨w.heap.size + 1 + 1, 0, none⟩ (.bool true)).same D _ hK rfl
    refine ⟨by simp, .inl ⟨_, _, rfl, run_takeDeferred hK', ?_⟩⟩
    have hc5 := cell_kept (World.cell?_setCell_same' W ⟨w.heap.size + 1 + 1, 0, none⟩ (.bool true) (by rw [hcr]; rfl)) (grownBy_putObj' _ D (.deferred none)) (fun r e => by cases e; exact ⟨_, hK', rfl⟩)
    refine ⟨.bool true, ?_, ret_bool (by rw [← hp]; exact leqL_all a b), (hB.setCell (p := ⟨w.heap.size + 1 + 1, 0, none⟩) (by show _ ≤ w.heap.size + 1 + 1; omega) _).trans (belowK_b (w := w) (Nat.le_refl _) _ D _ _ (by omega) hK' rfl rfl)⟩
    simp [results, Try.f57, go_sem, hc5]
  case stop =>
    rintro D c pre W hD hpre ⟨⟨rfl, hin, hcr⟩, hB⟩ hK
    gi_wp2
    refine ⟨by simp, .inl ⟨_, _, rfl, run_takeDeferred hK, ?_⟩⟩
    have hc5 := cell_kept hcr (grownBy_putObj' _ D (.deferred none)) (fun r e => by cases e; exact ⟨_, hK, rfl⟩)
    refine ⟨.bool false, ?_, ret_bool ?_, hB.trans (belowK_b (w := w) (Nat.le_refl _) W D _ _ (by omega) hK rfl rfl)⟩
    · simp [results, Try.f57, go_sem, hc5]
    · rw [← leqL_all]
      obtain ⟨r, hr⟩ := hpre
      rw [← hr, List.all_append, hin]; rfl

end Go.Proofs.Ytihddficgpjgpaa
