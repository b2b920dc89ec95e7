/- The document's Leq. -/
import Derived.Test.YtihddficgpjgpaaRmerge
namespace Go.Proofs.Ytihddficgpjgpaa
open Go.RowKit Go.ChangeShapes Go.WideShapes Go.Shelf

def RLeq (w : World) (a b : Lab) (cs : List Int) (v5 : Value) (v6 : Value) (wr : World) : Prop :=
  ∃ k : Nat, k ≤ cs.length ∧ v6 = .int .i64 k ∧ ((cs.take k).all fun c => decide (a.lv c ≤ b.lv c)) = true ∧ wr.ownsRow w.heap.size 70 1 v5 cs.length (u32s cs) ∧ LabB wr w.heap.size w.heap.size a ∧ LabB wr (w.heap.size + 1) w.heap.size b ∧ Below w.heap.size w wr

set_option maxRecDepth 100000 in
set_option maxHeartbeats 1600000 in
theorem rleq_any (va vb : Value) (a b : Lab) (w : World) (ha : LabV w w.heap.size va a) (hb : LabV w w.heap.size vb b) (hga : Good a) (hgb : Good b) (hl : a.ps.length + b.ps.length ≤ 100000) :
    Calls Try.prog 83 #[va, vb] w fun e w' => e = .returned (.bool (leqB a b)) ∧ Below w.heap.size w w' := by
  obtain ⟨Aa, ca, rfl, pa, la⟩ := ha
  obtain ⟨Ab, cb, rfl, pb, lb⟩ := hb
  have b0 := ((Below.refl w.heap.size w).alloc (Nat.le_refl _) (.cells #[.int .i64 a.d, .slice Aa a.ps.length ca] 39)).alloc (by simp) (.cells #[.int .i64 b.d, .slice Ab b.ps.length cb] 39)
  have k1 := ((Blk.new w 39 #[.int .i64 a.d, .slice Aa a.ps.length ca]).alloc (.cells #[.int .i64 b.d, .slice Ab b.ps.length cb] 39))
  have k2 := (Blk.new (w.alloc (.cells #[.int .i64 a.d, .slice Aa a.ps.length ca] 39)) 39 #[.int .i64 b.d, .slice Ab b.ps.length cb])
  rw [World.size_alloc] at k2
  have pa1 := pa.below b0
  have pb1 := pb.below b0
  clear pa pb
  go_enter Try.func83, Try.ntmps83
  go_wp2_with fail
  generalize (w.alloc (.cells #[.int .i64 a.d, .slice Aa a.ps.length ca] 39)).alloc (.cells #[.int .i64 b.d, .slice Ab b.ps.length cb] 39) = w1 at *
  refine (cats_any _ _ a b w1 ⟨Aa, ca, rfl, pa1.more b0.size, la⟩ ⟨Ab, cb, rfl, pb1.more b0.size, lb⟩ hga.rise hgb.rise hl).mono ?_
  rintro e w2 ⟨v7, cs, rfl, o7, hN, hb2⟩
  have hcl : cs.length ≤ 100000 := names_length hN hl
  have r0 : RLeq w a b cs v7 (.int .i64 0) w2 :=
    ⟨0, Nat.zero_le _, rfl, rfl, own_mono o7 b0.size, ⟨Aa, ca, k1.below hb2 k1.lt, pa1.below (hb2.mono b0.size), la⟩, ⟨Ab, cb, k2.below hb2 k2.lt, pb1.below (hb2.mono b0.size), lb⟩, b0.trans (hb2.mono b0.size)⟩
  obtain ⟨A7, c7, rfl⟩ := own_slice o7
  have HE := Lib.hid (leq_names hga hgb hN)
  clear o7 hN hb2 pa1 pb1 la lb k1 k2 b0 hga hgb
  go_wp2_with fail
  go_loopw [6] (fun v6 wr => RLeq w a b cs (.slice A7 cs.length c7) v6 wr) (fun v6 _ => cs.length - (intOf v6).toNat)
  case atStart => exact r0
  case round =>
    clear r0
    obtain ⟨k, hk, rfl, hall, o7, l1, l2, hb⟩ := hrel
    obtain ⟨A1, d1, ka, va⟩ := l1.labV hb.size
    obtain ⟨A2, d2, kb, vb⟩ := l2.labV hb.size
    by_cases hlt : k < cs.length
    · obtain ⟨b7, cur7, rfl, _, kc, _, _, hs7, ht7⟩ := own_blk o7 (by omega)
      have x5 : wr.cell? ⟨b7, k, none⟩ = some (.int .u32 cs[k]) := by
        rw [kc.cell]
        have e : (u32s cs)[k]? = some (.int .u32 cs[k]) := by simp [u32s, hlt]
        rw [← ht7, List.getElem?_take, if_pos (by omega)] at e
        simpa using e
      have hb7 := kc.lt
      have x1 := ka.cell 0
      have x2 := ka.cell 1
      have x3 := kb.cell 0
      have x4 := kb.cell 1
      simp at x1 x2 x3 x4
      have i0' : (0 : Int) ≤ (k : Int) ∧ (k : Int) < (cs.length : Int) := by omega
      have h3 := ka.lt
      have h4 := kb.lt
      have hbs := hb.size
      have VB := Lib.hid vb
      have C1 := Lib.hid (rat_any _ a cs[k] wr.drew (va.keep (fun _ _ => rfl)) (by omega))
      have O7 := Lib.hid o7
      have L1 := Lib.hid l1
      have L2 := Lib.hid l2
      have HB := Lib.hid hb
      have hstep := Lib.hid (all_take_succ (fun c => decide (a.lv c ≤ b.lv c)) cs k hlt)
      have HA := Lib.hid hall
      have hmem : cs[k] ∈ cs := List.getElem_mem hlt
      have HM := Lib.hid hmem
      clear ht7 hs7 kc vb va o7 l1 l2 hb ka kb hall hmem
      generalize cs[k] = x at *
      obtain ⟨bt, hbt⟩ : ∃ bt, decide (a.lv x > b.lv x) = bt := ⟨_, rfl⟩
      go_wp2_with fail
      go_region_held3 (fun w' => w'.cell? ⟨w.heap.size, 0, none⟩ = some (.int .i64 a.d) ∧ w'.cell? ⟨w.heap.size, 1, none⟩ = some (.slice A1 a.ps.length d1) ∧ w'.cell? ⟨w.heap.size + 1, 0, none⟩ = some (.int .i64 b.d) ∧ w'.cell? ⟨w.heap.size + 1, 1, none⟩ = some (.slice A2 b.ps.length d2) ∧ w'.cell? ⟨b7, k, none⟩ = some (.int .u32 x))
        (first
          | exact ⟨x1, x2, x3, x4, x5⟩
          | exact ⟨y1, y2, y3, y4, y5⟩
          | exact ⟨z1, z2, z3, z4, z5⟩
          | go_keep)
        (first
          | (go_at_call 81; refine C1.out.mono ?_; clear C1; rintro e w2 ⟨rfl, hb2⟩
             have y1 := (hb2.cell (p := ⟨w.heap.size, 0, none⟩) h3).trans x1
             have y2 := (hb2.cell (p := ⟨w.heap.size, 1, none⟩) h3).trans x2
             have y3 := (hb2.cell (p := ⟨w.heap.size + 1, 0, none⟩) h4).trans x3
             have y4 := (hb2.cell (p := ⟨w.heap.size + 1, 1, none⟩) h4).trans x4
             have y5 := (hb2.cell (p := ⟨b7, k, none⟩) hb7).trans x5)
          | (go_at_call 81; refine (rat_any _ b x w2 (VB.out.keep2 hb2) (by omega)).mono ?_; rintro e w3 ⟨rfl, hb3⟩
             have hbb : Below wr.heap.size wr.drew w3 := hb2.trans (hb3.mono hb2.size)
             have z1 := (hbb.cell (p := ⟨w.heap.size, 0, none⟩) h3).trans x1
             have z2 := (hbb.cell (p := ⟨w.heap.size, 1, none⟩) h3).trans x2
             have z3 := (hbb.cell (p := ⟨w.heap.size + 1, 0, none⟩) h4).trans x3
             have z4 := (hbb.cell (p := ⟨w.heap.size + 1, 1, none⟩) h4).trans x4
             have z5 := (hbb.cell (p := ⟨b7, k, none⟩) hb7).trans x5))
      have P1 := Lib.hid ((LabB.drew_ L1.out).below hbb (show w.heap.size ≤ wr.heap.size from hbs) h3)
      have P2 := Lib.hid ((LabB.drew_ L2.out).below hbb (show w.heap.size ≤ wr.heap.size from hbs) h4)
      have P7 := Lib.hid (own_blw (w := wr.drew) O7.out hbb)
      have PB := Lib.hid ((below_drewN HB.out 1).trans (hbb.mono hbs))
      clear x1 x2 x3 x4 x5 y1 y2 y3 y4 y5 z1 z2 z3 z4 z5
      cases bt with
      | true =>
        have hlt2 : ¬ a.lv x ≤ b.lv x := by simp at hbt; omega
        have HF := Lib.hid (show leqB a b = false by
          rw [← HE.out]
          have : (cs.all fun c => decide (a.lv c ≤ b.lv c)) = false := by
            rw [List.all_eq_false]
            exact ⟨x, HM.out, by simpa using hlt2⟩
          rw [this, Bool.and_false])
        clear hlt2
        go_wp2_with fail
        go_ret
        exact ⟨ret_bool HF.out.symm, PB.out⟩
      | false =>
        have hle : a.lv x ≤ b.lv x := by simp at hbt; omega
        have HF := Lib.hid (show ((cs.take (k + 1)).all fun c => decide (a.lv c ≤ b.lv c)) = true by rw [hstep.out, HA.out]; simpa using hle)
        clear hle
        go_wp2_with fail
        go_roundw
        case rel => exact ⟨k + 1, by omega, by go_num, HF.out, P7.out, P1.out, P2.out, PB.out⟩
        case measure => simp [intOf]; omega
    · obtain rfl : k = cs.length := by omega
      rw [List.take_length] at hall
      have HF := Lib.hid (show leqB a b = decide (a.d ≤ b.d) by rw [← HE.out, hall, Bool.and_true])
      have x1 := ka.cell 0
      have x3 := kb.cell 0
      simp at x1 x3
      have HB := Lib.hid hb
      clear ka kb va vb l1 l2 o7 hall hb
      go_wp2_with fail
      go_ret
      exact ⟨ret_bool HF.out.symm, HB.out⟩
end Go.Proofs.Ytihddficgpjgpaa
