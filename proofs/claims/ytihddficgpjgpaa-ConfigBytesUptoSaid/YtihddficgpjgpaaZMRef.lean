/- MRef: Rturn, Rwith, Rleq, Same, one behind the other. -/
import Derived.Test.YtihddficgpjgpaaZMCat
import Derived.Test.YtihddficgpjgpaaZMTop
import Derived.Laws.StructEq
namespace Go.Proofs.Ytihddficgpjgpaa
open Go.RowKit Go.ChangeShapes Go.WideShapes Go.Shelf
def RTurn (w : World) (a : Lab) (cs : List Int) (v7 : Value) (f : Int → Int) (v8 v9 : Value) (wr : World) : Prop :=
  ∃ k : Nat, k ≤ cs.length ∧ v9 = .int .i64 k ∧ wr.ownsRow w.heap.size 3 1 v8 k (i64s ((cs.take k).map fun c => f (a.lv c))) ∧ wr.ownsRow w.heap.size 70 1 v7 cs.length (u32s cs) ∧ LabB wr w.heap.size w.heap.size a ∧
    Blk wr (w.heap.size + 1) 39 #[.int .i64 0, .slice none 0 0] ∧ Below w.heap.size w wr
/-- The round behind the level's look-up. -/
structure TurnIn (w wr : World) (a : Lab) (cs : List Int) (b7 c7 : Nat) (k : Nat) (A8 : Option Addr) (c8 : Nat) (f : Int → Int) : Prop where
  o8 : wr.ownsRow w.heap.size 3 1 (.slice A8 k c8) k (i64s ((cs.take k).map fun c => f (a.lv c)))
  o7 : wr.ownsRow w.heap.size 70 1 (.slice (some ⟨b7, 0, none⟩) cs.length c7) cs.length (u32s cs)
  l1 : LabB wr w.heap.size w.heap.size a
  k6 : Blk wr (w.heap.size + 1) 39 #[.int .i64 0, .slice none 0 0]
  bl : Below w.heap.size w wr
theorem TurnIn.next {w wr w4 : World} {a : Lab} {cs : List Int} {b7 c7 k : Nat} {A8 : Option Addr} {c8 : Nat} {f : Int → Int} {v4 : Value} {y : Int} (h : TurnIn w wr a cs b7 c7 k A8 c8 f)
    (o4 : w4.ownsRow w.heap.size 3 1 v4 (k + 1) (i64s ((cs.take k).map fun c => f (a.lv c)) ++ [.int .i64 y])) (g4 : (wr.alloc (.cells #[.int .i64 y] 3)).grownBy w4 (Value.slice A8 k c8).ownBlock) (hk : k < cs.length) (hy : f (a.lv cs[k]) = y) :
    RTurn w a cs (.slice (some ⟨b7, 0, none⟩) cs.length c7) f v4 (.int .i64 ((k : Int) + 1)) w4 := by
  have hoa := h.o8.alloc (.cells #[.int .i64 y] 3)
  obtain ⟨A, c, h1, h2, h3⟩ := h.l1
  have hz := h.bl.size
  have q1 := h1.alloc (.cells #[.int .i64 y] 3)
  have q6 := h.k6.alloc (.cells #[.int .i64 y] 3)
  have q7 := h.o7.alloc (.cells #[.int .i64 y] 3)
  refine ⟨k + 1, by omega, by go_num, ?_, own_grown q7 g4 (fun x hx => ?_), ⟨A, c, q1.grown g4 (own_ne hoa q1 (by decide)), (h2.alloc hz _).keep (fun p hp => World.cell?_of_block (g4.block p.block (by simp; omega) (fun e => by have := (own_row_blk hoa e.symm).1; omega))), h3⟩, q6.grown g4 (own_ne hoa q6 (by decide)),
    (h.bl.alloc hz _).grown g4 (by simp; omega) (fun x hx => (own_row_blk hoa hx).1)⟩
  · rw [List.take_succ_eq_append_getElem hk, List.map_append]
    simp only [i64s, List.map_append, List.map_cons, List.map_nil, hy]
    exact o4
  · obtain ⟨_, cs', hb'⟩ := own_row_blk q7 hx
    exact own_ne hoa hb' (by decide)
set_option maxRecDepth 100000 in
set_option maxHeartbeats 1600000 in
theorem rturn_any (va : Value) (a : Lab) (f t : Int) (w : World) (ha : LabV w w.heap.size va a) (hga : Good a) (hl : a.ps.length ≤ 100000) :
    Calls Try.prog 115 #[va, .int .i64 f, .int .i64 t] w fun e w' => ∃ v, e = .returned v ∧ LabV w' w'.heap.size v (turnL f t a) ∧ Below w.heap.size w w' := by
  obtain ⟨i0, hi0, hz0, hz1, hz2⟩ := info_parts Try.info3
  obtain ⟨Aa, ca, rfl, pa, la⟩ := ha
  have b0 := ((Below.refl w.heap.size w).alloc (Nat.le_refl _) (.cells #[.int .i64 a.d, .slice Aa a.ps.length ca] 39)).alloc (by simp) (.cells #[.int .i64 0, .slice none 0 0] 39)
  have k1 := ((Blk.new w 39 #[.int .i64 a.d, .slice Aa a.ps.length ca]).alloc (.cells #[.int .i64 0, .slice none 0 0] 39))
  have k2 := (Blk.new (w.alloc (.cells #[.int .i64 a.d, .slice Aa a.ps.length ca] 39)) 39 #[.int .i64 0, .slice none 0 0])
  rw [World.size_alloc] at k2
  have pa1 := pa.below b0
  clear pa
  go_enter Try.func115, Try.ntmps115
  go_wp2_with fail
  generalize (w.alloc (.cells #[.int .i64 a.d, .slice Aa a.ps.length ca] 39)).alloc (.cells #[.int .i64 0, .slice none 0 0] 39) = w1 at *
  refine (cats_any _ _ a ⟨0, []⟩ w1 ⟨Aa, ca, rfl, pa1.more b0.size, la⟩ ⟨none, 0, rfl, PairsAt.nil _ _ _, Nat.le_refl _⟩ hga.rise True.intro (by simpa using hl)).mono ?_
  rintro e w2 ⟨v7, cs, rfl, o7, hN, hb2⟩
  have hcl : cs.length ≤ 100000 := names_length hN (by simpa using hl)
  have r0 : RTurn w a cs v7 (turnF f t) (.slice none 0 0) (.int .i64 0) w2 :=
    ⟨0, Nat.zero_le _, rfl, World.ownsRow_nil _ _ _ _, own_mono o7 b0.size, ⟨Aa, ca, k1.below hb2 k1.lt, pa1.below (hb2.mono b0.size), la⟩, k2.below hb2 k2.lt, b0.trans (hb2.mono b0.size)⟩
  obtain ⟨A7, c7, rfl⟩ := own_slice o7
  have HN := Lib.hid (make_turn f t hga hN)
  clear o7 hN hb2 pa1 la k1 k2 b0 hga
  go_wp2_with fail
  go_loopw [8, 9] (fun v8 v9 wr => RTurn w a cs (.slice A7 cs.length c7) (turnF f t) v8 v9 wr) (fun _ v9 _ => cs.length - (intOf v9).toNat)
  case atStart => exact r0
  case round =>
    clear r0
    obtain ⟨k, hk, rfl, o8, o7, l1, k6, hb⟩ := hrel
    obtain ⟨A8, c8, rfl⟩ := own_slice o8
    obtain ⟨A1, d1, ka, va⟩ := l1.labV hb.size
    by_cases hlt : k < cs.length
    · obtain ⟨b7, cur7, rfl, _, kc, _, _, hs7, ht7⟩ := own_blk o7 (by omega)
      have x5 : wr.cell? ⟨b7, k, none⟩ = some (.int .u32 cs[k]) := by
        rw [kc.cell]
        have e : (u32s cs)[k]? = some (.int .u32 cs[k]) := by simp [u32s, hlt]
        rw [← ht7, List.getElem?_take, if_pos (by omega)] at e
        simpa using e
      have hb7 := kc.lt
      have x1 := ka.cell 0
      have x2 := ka.cell 1
      simp at x1 x2
      have i0' : (0 : Int) ≤ (k : Int) ∧ (k : Int) < (cs.length : Int) := by omega
      have h3 := ka.lt
      have hbs := hb.size
      have C1 := Lib.hid (rat_any _ a cs[k] wr.drew (va.keep (fun _ _ => rfl)) (by omega))
      have O7 := Lib.hid o7
      have O8 := Lib.hid o8
      have K6 := Lib.hid k6
      have L1 := Lib.hid l1
      have HB := Lib.hid hb
      obtain ⟨y, hy⟩ : ∃ y, turnF f t (a.lv cs[k]) = y := ⟨_, rfl⟩
      have HY := Lib.hid hy
      obtain ⟨x, hx⟩ : ∃ x, cs[k] = x := ⟨_, rfl⟩
      rw [hx] at x5 C1 hy
      have HX := Lib.hid hx
      obtain ⟨z, hz⟩ : ∃ z, a.lv x = z := ⟨_, rfl⟩
      rw [hz] at C1 hy
      clear ht7 hs7 kc va o7 o8 k6 l1 hb ka hx hz
      go_wp2_with fail
      go_region_held3 (fun w' => w'.cell? ⟨w.heap.size, 0, none⟩ = some (.int .i64 a.d) ∧ w'.cell? ⟨w.heap.size, 1, none⟩ = some (.slice A1 a.ps.length d1) ∧ w'.cell? ⟨b7, k, none⟩ = some (.int .u32 x))
        (first
          | exact ⟨x1, x2, x5⟩
          | exact ⟨y1, y2, y5⟩
          | go_keep)
        (first
          | (go_at_call 81; refine C1.out.mono ?_; clear C1; rintro e w2 ⟨rfl, hb2⟩
             have y1 := (hb2.cell (p := ⟨w.heap.size, 0, none⟩) h3).trans x1
             have y2 := (hb2.cell (p := ⟨w.heap.size, 1, none⟩) h3).trans x2
             have y5 := (hb2.cell (p := ⟨b7, k, none⟩) hb7).trans x5))
      have T : TurnIn w w2 a cs b7 c7 k A8 c8 (turnF f t) := ⟨own_blw (w := wr.drew) O8.out hb2, own_blw (w := wr.drew) O7.out hb2, (LabB.drew_ L1.out).below hb2 (show w.heap.size ≤ wr.heap.size from hbs) h3, K6.out.drew.below hb2 K6.out.lt, (below_drewN HB.out 1).trans (hb2.mono hbs)⟩
      have HT := Lib.hid T
      have ho := T.o8.alloc (.cells #[.int .i64 y] 3)
      have hs2 := T.bl.size
      have hcn := Lib.hid (cell_one_new w2 (.int .i64 y) 3)
      clear x1 x2 x5 y1 y2 y5 T O8 O7 L1 K6 HB hb2
      by_cases hzf : z = f
      · have hzb : (z == f) = true := by simpa using hzf
        have hyt : y = t := by rw [← hy]; unfold turnF; rw [if_pos hzf]
        subst hyt
        clear hzf hy
        go_wp2_with (at_builtin; refine wpList_append_own_at _ rfl _ _ 34 rfl w.heap.size 3 i0 _ 1 8 Try.underlying34 hi0 hz0 hz1 hz2 rfl (by decide) (.slice A8 k c8) _ _ rfl ho ⟨w2.heap.size, 0, none⟩ 1 1 [.int .i64 y] rfl rfl hcn.out (by intro u hu; simp at hu; subst hu; rfl) (by unfold maxLen; omega) (by omega) (by simp; omega) ?_; intro v4 w4 o4 g4 _ _)
        have R := Lib.hid (HT.out.next o4 g4 hlt (by rw [HY.out]))
        clear o4 g4 ho
        go_roundw
        case rel => exact R.out
        case measure => simp [intOf]; omega
      · have hzb : (z == f) = false := by simpa using hzf
        have hyt : y = z := by rw [← hy]; unfold turnF; rw [if_neg hzf]
        subst hyt
        clear hzf hy
        go_wp2_with (at_builtin; refine wpList_append_own_at _ rfl _ _ 34 rfl w.heap.size 3 i0 _ 1 8 Try.underlying34 hi0 hz0 hz1 hz2 rfl (by decide) (.slice A8 k c8) _ _ rfl ho ⟨w2.heap.size, 0, none⟩ 1 1 [.int .i64 y] rfl rfl hcn.out (by intro u hu; simp at hu; subst hu; rfl) (by unfold maxLen; omega) (by omega) (by simp; omega) ?_; intro v4 w4 o4 g4 _ _)
        have R := Lib.hid (HT.out.next o4 g4 hlt (by rw [HY.out]))
        clear o4 g4 ho
        go_roundw
        case rel => exact R.out
        case measure => simp [intOf]; omega
    · obtain rfl : k = cs.length := by omega
      rw [List.take_length] at o8
      have e8 : (cs.map fun c => turnF f t (a.lv c)).length = cs.length := by simp
      have x1 := ka.cell 0
      have hi7 := own_ints (k := .u32) o7
      have hi8 := own_ints (k := .i64) (q := cs.map fun c => turnF f t (a.lv c)) (A := A8) (c := c8) (B := w.heap.size) (by rw [e8]; exact o8)
      simp at x1
      have HM := Lib.hid (make_any A7 A8 c7 c8 (turnF f t a.d) cs (fun c => turnF f t (a.lv c)) wr hi7 hi8 (by omega))
      have K3 := Lib.hid k6
      have HB := Lib.hid hb
      have hbs := hb.size
      obtain ⟨y, hy⟩ : ∃ y, turnF f t a.d = y := ⟨_, rfl⟩
      rw [hy] at HM HN
      clear o8 o7 k6 hb hi7 hi8 ka va l1 e8
      by_cases hzf : a.d = f
      · have hzb : (a.d == f) = true := by simpa using hzf
        have hyt : y = t := by rw [← hy]; unfold turnF; rw [if_pos hzf]
        subst hyt
        clear hzf hy
        go_wp2_with fail
        refine HM.out.mono ?_
        rintro e w5 ⟨v5, rfl, hv5, hb5⟩
        rw [HN.out] at hv5
        obtain ⟨A9, c9, rfl, hp9, hc9⟩ := hv5
        have k6 := K3.out.below hb5 K3.out.lt
        have hS := stored_of (w := w) (l := turnL f y a) k6 hp9 hc9 (HB.out.trans (hb5.mono hbs)) (by omega)
        have HS := Lib.hid hS
        have e2 := k6.cell 0
        have e3 := k6.cell 1
        have f2 := k6.frozen 0
        have f3 := k6.frozen 1
        simp at e2 e3
        clear hS k6 hp9 hb5 hc9
        go_wp2
        refine bodyPost_ret (results_cell_row rfl _ _ (w.heap.size + 1) 39 #[.int .i64 (turnL f y a).d, .slice A9 (turnL f y a).ps.length c9] (0, 0) _ (by rfl) HS.out.blk Try.underlying39 rfl (by kernel_rfl)) rfl ?_
        exact ⟨_, rfl, HS.out.lab, HS.out.bl⟩
      · have hzb : (a.d == f) = false := by simpa using hzf
        have hyt : y = a.d := by rw [← hy]; unfold turnF; rw [if_neg hzf]
        subst hyt
        clear hzf hy
        go_wp2_with fail
        refine HM.out.mono ?_
        rintro e w5 ⟨v5, rfl, hv5, hb5⟩
        rw [HN.out] at hv5
        obtain ⟨A9, c9, rfl, hp9, hc9⟩ := hv5
        have k6 := K3.out.below hb5 K3.out.lt
        have hS := stored_of (w := w) (l := turnL f t a) k6 hp9 hc9 (HB.out.trans (hb5.mono hbs)) (by omega)
        have HS := Lib.hid hS
        have e2 := k6.cell 0
        have e3 := k6.cell 1
        have f2 := k6.frozen 0
        have f3 := k6.frozen 1
        simp at e2 e3
        clear hS k6 hp9 hb5 hc9
        go_wp2
        refine bodyPost_ret (results_cell_row rfl _ _ (w.heap.size + 1) 39 #[.int .i64 (turnL f t a).d, .slice A9 (turnL f t a).ps.length c9] (0, 0) _ (by rfl) HS.out.blk Try.underlying39 rfl (by kernel_rfl)) rfl ?_
        exact ⟨_, rfl, HS.out.lab, HS.out.bl⟩
set_option maxRecDepth 100000 in
set_option maxHeartbeats 400000 in
theorem rraise_any (va : Value) (a : Lab) (w : World) (ha : LabV w w.heap.size va a) (hga : Good a) (hl : a.ps.length ≤ 100000) :
    Calls Try.prog 76 #[va] w fun e w' => ∃ v, e = .returned v ∧ LabV w' w'.heap.size v (raiseL a) ∧ Below w.heap.size w w' := by
  obtain ⟨Aa, ca, rfl, pa, la⟩ := ha
  go_enter Try.func76, Try.ntmps76
  go_wp2_with fail
  have b0 := ((Below.refl w.heap.size w).alloc (Nat.le_refl _) (.cells #[.int .i64 a.d, .slice Aa a.ps.length ca] 39))
  have s0 : (w.alloc (.cells #[.int .i64 a.d, .slice Aa a.ps.length ca] 39)).heap.size = w.heap.size + 1 := by simp
  generalize w.alloc (.cells #[.int .i64 a.d, .slice Aa a.ps.length ca] 39) = w2 at *
  have k3 := Blk.new w2 39 #[.int .i64 0, .slice none 0 0]
  have b3 := b0.alloc b0.size (.cells #[.int .i64 0, .slice none 0 0] 39)
  rw [s0] at k3
  generalize w2.alloc (.cells #[.int .i64 0, .slice none 0 0] 39) = w3 at *
  refine (rturn_any _ a _ _ _ ⟨Aa, ca, rfl, (pa.below b3).more b3.size, la⟩ hga hl).mono ?_
  rintro e W ⟨v, rfl, ⟨A, c, rfl, p, hc⟩, hbW⟩
  have k := k3.below hbW k3.lt
  have hS := stored_of (l := raiseL a) k p hc (b3.trans (hbW.mono b3.size)) (by omega)
  have HS := Lib.hid hS
  have e2 := k.cell 0
  have e3 := k.cell 1
  have f2 := k.frozen 0
  have f3 := k.frozen 1
  simp at e2 e3
  have hd : turnL 0 5 a = raiseL a := rfl
  rw [hd]
  clear hS k p pa la hc k3 hbW b3 b0 hd
  go_wp2
  refine bodyPost_ret (results_cell_row rfl _ _ (w.heap.size + 1) 39 #[.int .i64 (raiseL a).d, .slice A (raiseL a).ps.length c] (0, 0) _ (by rfl) HS.out.blk Try.underlying39 rfl (by kernel_rfl)) rfl ?_
  exact ⟨_, rfl, HS.out.lab, HS.out.bl⟩
set_option maxRecDepth 100000 in
set_option maxHeartbeats 400000 in
theorem rrest_any (va : Value) (a : Lab) (w : World) (ha : LabV w w.heap.size va a) (hga : Good a) (hl : a.ps.length ≤ 100000) :
    Calls Try.prog 77 #[va] w fun e w' => ∃ v, e = .returned v ∧ LabV w' w'.heap.size v (restL a) ∧ Below w.heap.size w w' := by
  obtain ⟨Aa, ca, rfl, pa, la⟩ := ha
  go_enter Try.func77, Try.ntmps77
  go_wp2_with fail
  have b0 := ((Below.refl w.heap.size w).alloc (Nat.le_refl _) (.cells #[.int .i64 a.d, .slice Aa a.ps.length ca] 39))
  have s0 : (w.alloc (.cells #[.int .i64 a.d, .slice Aa a.ps.length ca] 39)).heap.size = w.heap.size + 1 := by simp
  generalize w.alloc (.cells #[.int .i64 a.d, .slice Aa a.ps.length ca] 39) = w2 at *
  have k3 := Blk.new w2 39 #[.int .i64 0, .slice none 0 0]
  have b3 := b0.alloc b0.size (.cells #[.int .i64 0, .slice none 0 0] 39)
  rw [s0] at k3
  generalize w2.alloc (.cells #[.int .i64 0, .slice none 0 0] 39) = w3 at *
  refine (rturn_any _ a _ _ _ ⟨Aa, ca, rfl, (pa.below b3).more b3.size, la⟩ hga hl).mono ?_
  rintro e W ⟨v, rfl, ⟨A, c, rfl, p, hc⟩, hbW⟩
  have k := k3.below hbW k3.lt
  have hS := stored_of (l := restL a) k p hc (b3.trans (hbW.mono b3.size)) (by omega)
  have HS := Lib.hid hS
  have e2 := k.cell 0
  have e3 := k.cell 1
  have f2 := k.frozen 0
  have f3 := k.frozen 1
  simp at e2 e3
  have hd : turnL 0 2 a = restL a := rfl
  rw [hd]
  clear hS k p pa la hc k3 hbW b3 b0 hd
  go_wp2
  refine bodyPost_ret (results_cell_row rfl _ _ (w.heap.size + 1) 39 #[.int .i64 (restL a).d, .slice A (restL a).ps.length c] (0, 0) _ (by rfl) HS.out.blk Try.underlying39 rfl (by kernel_rfl)) rfl ?_
  exact ⟨_, rfl, HS.out.lab, HS.out.bl⟩
end Go.Proofs.Ytihddficgpjgpaa
namespace Go.Proofs.Ytihddficgpjgpaa
open Go.RowKit Go.ChangeShapes Go.WideShapes Go.Shelf
def RLeq (w : World) (a b : Lab) (cs : List Int) (v5 : Value) (v6 : Value) (wr : World) : Prop :=
  ∃ k : Nat, k ≤ cs.length ∧ v6 = .int .i64 k ∧ ((cs.take k).all fun c => decide (a.lv c ≤ b.lv c)) = true ∧ wr.ownsRow w.heap.size 70 1 v5 cs.length (u32s cs) ∧ LabB wr w.heap.size w.heap.size a ∧ LabB wr (w.heap.size + 1) w.heap.size b ∧ Below w.heap.size w wr
set_option maxRecDepth 100000 in
set_option maxHeartbeats 1600000 in
theorem rleq_any (va vb : Value) (a b : Lab) (w : World) (ha : LabV w w.heap.size va a) (hb : LabV w w.heap.size vb b) (hga : Good a) (hgb : Good b) (hl : a.ps.length + b.ps.length ≤ 100000) :
    Calls Try.prog 83 #[va, vb] w fun e w' => e = .returned (.bool (leqB a b)) ∧ Below w.heap.size w w' := by
  obtain ⟨Aa, ca, rfl, pa, la⟩ := ha
  obtain ⟨Ab, cb, rfl, pb, lb⟩ := hb
  have b0 := ((Below.refl w.heap.size w).alloc (Nat.le_refl _) (.cells #[.int .i64 a.d, .slice Aa a.ps.length ca] 39)).alloc (by simp) (.cells #[.int .i64 b.d, .slice Ab b.ps.length cb] 39)
  have k1 := ((Blk.new w 39 #[.int .i64 a.d, .slice Aa a.ps.length ca]).alloc (.cells #[.int .i64 b.d, .slice Ab b.ps.length cb] 39))
  have k2 := (Blk.new (w.alloc (.cells #[.int .i64 a.d, .slice Aa a.ps.length ca] 39)) 39 #[.int .i64 b.d, .slice Ab b.ps.length cb])
  rw [World.size_alloc] at k2
  have pa1 := pa.below b0
  have pb1 := pb.below b0
  clear pa pb
  go_enter Try.func83, Try.ntmps83
  go_wp2_with fail
  generalize (w.alloc (.cells #[.int .i64 a.d, .slice Aa a.ps.length ca] 39)).alloc (.cells #[.int .i64 b.d, .slice Ab b.ps.length cb] 39) = w1 at *
  refine (cats_any _ _ a b w1 ⟨Aa, ca, rfl, pa1.more b0.size, la⟩ ⟨Ab, cb, rfl, pb1.more b0.size, lb⟩ hga.rise hgb.rise hl).mono ?_
  rintro e w2 ⟨v7, cs, rfl, o7, hN, hb2⟩
  have hcl : cs.length ≤ 100000 := names_length hN hl
  have r0 : RLeq w a b cs v7 (.int .i64 0) w2 :=
    ⟨0, Nat.zero_le _, rfl, rfl, own_mono o7 b0.size, ⟨Aa, ca, k1.below hb2 k1.lt, pa1.below (hb2.mono b0.size), la⟩, ⟨Ab, cb, k2.below hb2 k2.lt, pb1.below (hb2.mono b0.size), lb⟩, b0.trans (hb2.mono b0.size)⟩
  obtain ⟨A7, c7, rfl⟩ := own_slice o7
  have HE := Lib.hid (leq_names hga hgb hN)
  clear o7 hN hb2 pa1 pb1 la lb k1 k2 b0 hga hgb
  go_wp2_with fail
  go_loopw [6] (fun v6 wr => RLeq w a b cs (.slice A7 cs.length c7) v6 wr) (fun v6 _ => cs.length - (intOf v6).toNat)
  case atStart => exact r0
  case round =>
    clear r0
    obtain ⟨k, hk, rfl, hall, o7, l1, l2, hb⟩ := hrel
    obtain ⟨A1, d1, ka, va⟩ := l1.labV hb.size
    obtain ⟨A2, d2, kb, vb⟩ := l2.labV hb.size
    by_cases hlt : k < cs.length
    · obtain ⟨b7, cur7, rfl, _, kc, _, _, hs7, ht7⟩ := own_blk o7 (by omega)
      have x5 : wr.cell? ⟨b7, k, none⟩ = some (.int .u32 cs[k]) := by
        rw [kc.cell]
        have e : (u32s cs)[k]? = some (.int .u32 cs[k]) := by simp [u32s, hlt]
        rw [← ht7, List.getElem?_take, if_pos (by omega)] at e
        simpa using e
      have hb7 := kc.lt
      have x1 := ka.cell 0
      have x2 := ka.cell 1
      have x3 := kb.cell 0
      have x4 := kb.cell 1
      simp at x1 x2 x3 x4
      have i0' : (0 : Int) ≤ (k : Int) ∧ (k : Int) < (cs.length : Int) := by omega
      have h3 := ka.lt
      have h4 := kb.lt
      have hbs := hb.size
      have VB := Lib.hid vb
      have C1 := Lib.hid (rat_any _ a cs[k] wr.drew (va.keep (fun _ _ => rfl)) (by omega))
      have O7 := Lib.hid o7
      have L1 := Lib.hid l1
      have L2 := Lib.hid l2
      have HB := Lib.hid hb
      have hstep := Lib.hid (all_take_succ (fun c => decide (a.lv c ≤ b.lv c)) cs k hlt)
      have HA := Lib.hid hall
      have hmem : cs[k] ∈ cs := List.getElem_mem hlt
      have HM := Lib.hid hmem
      clear ht7 hs7 kc vb va o7 l1 l2 hb ka kb hall hmem
      generalize cs[k] = x at *
      obtain ⟨bt, hbt⟩ : ∃ bt, decide (a.lv x > b.lv x) = bt := ⟨_, rfl⟩
      go_wp2_with fail
      go_region_held3 (fun w' => w'.cell? ⟨w.heap.size, 0, none⟩ = some (.int .i64 a.d) ∧ w'.cell? ⟨w.heap.size, 1, none⟩ = some (.slice A1 a.ps.length d1) ∧ w'.cell? ⟨w.heap.size + 1, 0, none⟩ = some (.int .i64 b.d) ∧ w'.cell? ⟨w.heap.size + 1, 1, none⟩ = some (.slice A2 b.ps.length d2) ∧ w'.cell? ⟨b7, k, none⟩ = some (.int .u32 x))
        (first
          | exact ⟨x1, x2, x3, x4, x5⟩
          | exact ⟨y1, y2, y3, y4, y5⟩
          | exact ⟨z1, z2, z3, z4, z5⟩
          | go_keep)
        (first
          | (go_at_call 81; refine C1.out.mono ?_; clear C1; rintro e w2 ⟨rfl, hb2⟩
             have y1 := (hb2.cell (p := ⟨w.heap.size, 0, none⟩) h3).trans x1
             have y2 := (hb2.cell (p := ⟨w.heap.size, 1, none⟩) h3).trans x2
             have y3 := (hb2.cell (p := ⟨w.heap.size + 1, 0, none⟩) h4).trans x3
             have y4 := (hb2.cell (p := ⟨w.heap.size + 1, 1, none⟩) h4).trans x4
             have y5 := (hb2.cell (p := ⟨b7, k, none⟩) hb7).trans x5)
          | (go_at_call 81; refine (rat_any _ b x w2 (VB.out.keep2 hb2) (by omega)).mono ?_; rintro e w3 ⟨rfl, hb3⟩
             have hbb : Below wr.heap.size wr.drew w3 := hb2.trans (hb3.mono hb2.size)
             have z1 := (hbb.cell (p := ⟨w.heap.size, 0, none⟩) h3).trans x1
             have z2 := (hbb.cell (p := ⟨w.heap.size, 1, none⟩) h3).trans x2
             have z3 := (hbb.cell (p := ⟨w.heap.size + 1, 0, none⟩) h4).trans x3
             have z4 := (hbb.cell (p := ⟨w.heap.size + 1, 1, none⟩) h4).trans x4
             have z5 := (hbb.cell (p := ⟨b7, k, none⟩) hb7).trans x5))
      have P1 := Lib.hid ((LabB.drew_ L1.out).below hbb (show w.heap.size ≤ wr.heap.size from hbs) h3)
      have P2 := Lib.hid ((LabB.drew_ L2.out).below hbb (show w.heap.size ≤ wr.heap.size from hbs) h4)
      have P7 := Lib.hid (own_blw (w := wr.drew) O7.out hbb)
      have PB := Lib.hid ((below_drewN HB.out 1).trans (hbb.mono hbs))
      clear x1 x2 x3 x4 x5 y1 y2 y3 y4 y5 z1 z2 z3 z4 z5
      cases bt with
      | true =>
        have hlt2 : ¬ a.lv x ≤ b.lv x := by simp at hbt; omega
        have HF := Lib.hid (show leqB a b = false by
          rw [← HE.out]
          have : (cs.all fun c => decide (a.lv c ≤ b.lv c)) = false := by
            rw [List.all_eq_false]
            exact ⟨x, HM.out, by simpa using hlt2⟩
          rw [this, Bool.and_false])
        clear hlt2
        go_wp2_with fail
        go_ret
        exact ⟨ret_bool HF.out.symm, PB.out⟩
      | false =>
        have hle : a.lv x ≤ b.lv x := by simp at hbt; omega
        have HF := Lib.hid (show ((cs.take (k + 1)).all fun c => decide (a.lv c ≤ b.lv c)) = true by rw [hstep.out, HA.out]; simpa using hle)
        clear hle
        go_wp2_with fail
        go_roundw
        case rel => exact ⟨k + 1, by omega, by go_num, HF.out, P7.out, P1.out, P2.out, PB.out⟩
        case measure => simp [intOf]; omega
    · obtain rfl : k = cs.length := by omega
      rw [List.take_length] at hall
      have HF := Lib.hid (show leqB a b = decide (a.d ≤ b.d) by rw [← HE.out, hall, Bool.and_true])
      have x1 := ka.cell 0
      have x3 := kb.cell 0
      simp at x1 x3
      have HB := Lib.hid hb
      clear ka kb va vb l1 l2 o7 hall hb
      go_wp2_with fail
      go_ret
      exact ⟨ret_bool HF.out.symm, HB.out⟩
end Go.Proofs.Ytihddficgpjgpaa
namespace Go.Proofs.Ytihddficgpjgpaa
open Go.RowKit Go.ChangeShapes Go.WideShapes Go.Shelf
theorem st90 : Try.prog.underlying 90 = some (.struct (Try.prog.fieldsOf 90)) := by
  unfold Program.fieldsOf
  rw [Try.underlying90]
theorem fl90 : (Try.prog.fieldsOf 90).toList = [{ name := "Cat", type := 70, offset := 0, embedded := false, tag := "", pkgPath := "", byteOffset := 0 }, { name := "Level", type := 3, offset := 1, embedded := false, tag := "", pkgPath := "", byteOffset := 8 }] := by
  unfold Program.fieldsOf
  rw [Try.underlying90]
theorem sh90 : Try.prog.stoodInHeld 90 = false := by kernel_rfl
theorem neq_pair (w : World) (a b c d : Int) : (binOp .neq 90 (.agg #[.int .u32 a, .int .i64 b]) (.agg #[.int .u32 c, .int .i64 d])).run Try.prog w = .ok (.bool (!(a == c && b == d))) w := by
  rw [run_neq_struct, run_equalIn_struct w 9999 90 _ _ st90 sh90, fl90]
  have e70 := fun (w : World) (a b : Int) => run_equalIn_int (P := Try.prog) w 9998 70 .u32 .u32 a b Try.underlying70
  have e3 := fun (w : World) (a b : Int) => run_equalIn_int (P := Try.prog) w 9998 3 .i64 .i64 a b Try.underlying3
  simp only [Op.eqFields]
  simp [go_sem]
  by_cases h1 : a = c <;> by_cases h2 : b = d <;> simp [h1, h2]
def REq (w : World) (A A' : Option Addr) (B : Nat) (la lb : List (Int × Int)) (vi : Value) (wr : World) : Prop :=
  ∃ k : Nat, k ≤ la.length ∧ vi = .int .i64 k ∧ la.take k = lb.take k ∧ PairsAt wr B A la ∧ PairsAt wr B A' lb ∧ Below w.heap.size w wr
set_option maxRecDepth 100000 in
set_option maxHeartbeats 800000 in
theorem equal_any (A A' : Option Addr) (c c' B : Nat) (la lb : List (Int × Int)) (w : World) (ha : PairsAt w B A la) (hb : PairsAt w B A' lb) (hl : la.length ≤ 1000000) :
    Calls Try.prog 106 #[.slice A la.length c, .slice A' lb.length c'] w fun e w' => e = .returned (.bool (decide (la = lb))) ∧ Below w.heap.size w w' := by
  have b0 := Below.refl w.heap.size w
  have hneq := neq_pair
  by_cases hlen : la.length = lb.length
  · have hlb : ((la.length : Int) != (lb.length : Int)) = false := by simp; omega
    have r0 : REq w A A' B la lb (.int .i64 0) w := ⟨0, Nat.zero_le _, rfl, by simp, ha, hb, b0⟩
    have HL := Lib.hid hlen
    clear ha hb b0 hlen
    go_enter Try.func106, Try.ntmps106
    go_wp2_with fail
    clear hlb
    go_loopw [13] (fun vi wr => REq w A A' B la lb vi wr) (fun vi _ => la.length - (intOf vi).toNat)
    case atStart => exact r0
    case round =>
      clear r0
      obtain ⟨k, hk, rfl, he, pa, pb, bw⟩ := hrel
      have HE := Lib.hid he
      clear he
      by_cases hlt : k < la.length
      · have hlt2 : k < lb.length := by have := HL.out; omega
        obtain ⟨b1, o1, rfl, _, hc1⟩ := pa (by omega)
        obtain ⟨b2, o2, rfl, _, hc2⟩ := pb (by omega)
        obtain ⟨c1, c2⟩ := hc1 k hlt
        obtain ⟨c3, c4⟩ := hc2 k hlt2
        have i0 : (0 : Int) ≤ (k : Int) := by omega
        have i1 : (k : Int) < (la.length : Int) := by omega
        have i2 : (k : Int) < (lb.length : Int) := by omega
        by_cases hp : la[k] = lb[k]
        · have N := Lib.hid (show la.take (k + 1) = lb.take (k + 1) by
            rw [List.take_succ_eq_append_getElem hlt, List.take_succ_eq_append_getElem hlt2, HE.out, hp])
          rw [hp] at c1 c2
          have PA := Lib.hid pa
          have PB := Lib.hid pb
          have BW := Lib.hid bw
          clear hc1 hc2 hp pa pb bw
          generalize lb[k] = pr at *
          obtain ⟨x, y⟩ := pr
          simp only at c1 c2 c3 c4
          go_wp2_with fail
          go_quiet (fail)
          go_wp2_with fail
          go_roundw
          case rel => exact ⟨k + 1, by omega, by go_num, N.out, PA.out.keep (fun _ _ => rfl), PB.out.keep (fun _ _ => rfl), below_drewN BW.out _⟩
          case measure => simp [intOf]; omega
        · have hne := Lib.hid (show decide (la = lb) = false by
            simp
            rintro rfl
            exact hp rfl)
          have BW := Lib.hid bw
          have hb1 : (la[k].1 == lb[k].1 && la[k].2 == lb[k].2) = false := by
            cases h1 : (la[k].1 == lb[k].1 && la[k].2 == lb[k].2) with
            | false => rfl
            | true =>
              simp at h1
              exact absurd (Prod.ext h1.1 h1.2) hp
          clear hc1 hc2 hp pa pb bw
          generalize lb[k] = pr at *
          generalize la[k] = pq at *
          obtain ⟨x, y⟩ := pr
          obtain ⟨x2, y2⟩ := pq
          simp only at c1 c2 c3 c4 hb1
          go_wp2_with fail
          go_quiet (fail)
          go_wp2_with fail
          go_ret
          exact ⟨ret_bool hne.out.symm, below_drewN BW.out _⟩
      · have hk2 : k = la.length := by omega
        have hE := Lib.hid (show decide (la = lb) = true by
          have := HE.out
          rw [hk2, List.take_of_length_le (by omega), List.take_of_length_le (by have := HL.out; omega)] at this
          simpa using this)
        have BW := Lib.hid bw
        clear hk2 pa pb bw
        go_wp2_with fail
        go_ret
        exact ⟨ret_bool hE.out.symm, BW.out⟩
  · have hlb : ((la.length : Int) != (lb.length : Int)) = true := by simp; omega
    have hne := Lib.hid (show decide (la = lb) = false by
      simp
      rintro rfl
      exact hlen rfl)
    clear ha hb hlen
    go_enter Try.func106, Try.ntmps106
    go_wp2_with fail
    go_ret
    exact ⟨ret_bool hne.out.symm, b0⟩
/-- The same default and pairs. -/
def sameB (a b : Lab) : Bool := decide (a.d = b.d) && decide (a.ps = b.ps)
theorem sameB_iff (a b : Lab) : sameB a b = true ↔ a = b := by
  unfold sameB
  rw [Bool.and_eq_true, decide_eq_true_eq, decide_eq_true_eq]
  exact ⟨fun h => Lab.eq_of h.1 h.2, fun h => by rw [h]; exact ⟨rfl, rfl⟩⟩
set_option maxHeartbeats 400000 in
theorem lsame_any (va vb : Value) (a b : Lab) (w : World) (ha : LabV w w.heap.size va a) (hb : LabV w w.heap.size vb b) (hl : a.ps.length ≤ 1000000) :
    Calls Try.prog 52 #[va, vb] w fun e w' => e = .returned (.bool (sameB a b)) ∧ Below w.heap.size w w' := by
  obtain ⟨Aa, ca, rfl, pa, la⟩ := ha
  obtain ⟨Ab, cb, rfl, pb, lb⟩ := hb
  have b0 := ((Below.refl w.heap.size w).alloc (Nat.le_refl _) (.cells #[.int .i64 a.d, .slice Aa a.ps.length ca] 39)).alloc (by simp) (.cells #[.int .i64 b.d, .slice Ab b.ps.length cb] 39)
  have hb0 : sameB a b = (decide (a.d = b.d) && decide (a.ps = b.ps)) := rfl
  by_cases hd : a.d = b.d
  · have hdb : (a.d == b.d) = true := by simpa using hd
    have HD := Lib.hid (show sameB a b = decide (a.ps = b.ps) by rw [hb0, decide_eq_true hd]; rfl)
    clear hb0 hd
    have pa1 := pa.below b0
    have pb1 := pb.below b0
    go_enter Try.func52, Try.ntmps52
    go_wp2_with fail
    generalize (w.alloc (.cells #[.int .i64 a.d, .slice Aa a.ps.length ca] 39)).alloc (.cells #[.int .i64 b.d, .slice Ab b.ps.length cb] 39) = w1 at *
    refine (equal_any Aa Ab ca cb w.heap.size a.ps b.ps w1 pa1 pb1 hl).mono ?_
    rintro e w2 ⟨rfl, hb2⟩
    clear pa pb pa1 pb1
    go_wp2_with fail
    go_ret
    exact ⟨ret_bool HD.out.symm, b0.trans (hb2.mono b0.size)⟩
  · have hdb : (a.d == b.d) = false := by simpa using hd
    have HD := Lib.hid (show sameB a b = false by rw [hb0, decide_eq_false hd]; rfl)
    clear hb0 hd pa pb
    go_enter Try.func52, Try.ntmps52
    go_wp2_with fail
    go_ret
    exact ⟨ret_bool HD.out.symm, b0⟩
def REq2 (w : World) (B : Nat) (a b : Lab) (vi : Value) (wr : World) : Prop :=
  ∃ k : Nat, k ≤ a.ps.length ∧ vi = .int .i64 k ∧ a.ps.take k = b.ps.take k ∧ LabB wr w.heap.size B a ∧ LabB wr (w.heap.size + 1) B b ∧ Below w.heap.size w wr
theorem LabB.drewN {w : World} {g B : Nat} {l : Lab} (h : LabB w g B l) (n : Nat) : LabB (w.drewN n) g B l := h
set_option maxRecDepth 100000 in
set_option maxHeartbeats 800000 in
theorem rsame_any (va vb : Value) (a b : Lab) (w : World) (ha : LabV w w.heap.size va a) (hb : LabV w w.heap.size vb b) (hl : a.ps.length ≤ 1000000) :
    Calls Try.prog 38 #[va, vb] w fun e w' => e = .returned (.bool (sameB a b)) ∧ Below w.heap.size w w' := by
  obtain ⟨Aa, ca, rfl, pa, la⟩ := ha
  obtain ⟨Ab, cb, rfl, pb, lb⟩ := hb
  have hneq := neq_pair
  have b0 := ((Below.refl w.heap.size w).alloc (Nat.le_refl _) (.cells #[.int .i64 a.d, .slice Aa a.ps.length ca] 39)).alloc (by simp) (.cells #[.int .i64 b.d, .slice Ab b.ps.length cb] 39)
  by_cases hd : a.d = b.d
  · have hdb : (a.d != b.d) = false := by simpa using hd
    by_cases hlen : a.ps.length = b.ps.length
    · have hlb : ((a.ps.length : Int) != (b.ps.length : Int)) = false := by simp; omega
      have HL := Lib.hid hlen
      have HD := Lib.hid hd
      have k1 := (Blk.new w 39 #[.int .i64 a.d, .slice Aa a.ps.length ca]).alloc (.cells #[.int .i64 b.d, .slice Ab b.ps.length cb] 39)
      have k2 := Blk.new (w.alloc (.cells #[.int .i64 a.d, .slice Aa a.ps.length ca] 39)) 39 #[.int .i64 b.d, .slice Ab b.ps.length cb]
      rw [World.size_alloc] at k2
      have r0 : REq2 w w.heap.size a b (.int .i64 0) ((w.alloc (.cells #[.int .i64 a.d, .slice Aa a.ps.length ca] 39)).alloc (.cells #[.int .i64 b.d, .slice Ab b.ps.length cb] 39)) :=
        ⟨0, Nat.zero_le _, rfl, by simp, ⟨Aa, ca, k1, pa.below b0, la⟩, ⟨Ab, cb, k2, pb.below b0, lb⟩, b0⟩
      clear pa pb b0 hlen k1 k2 hd
      go_enter Try.func38, Try.ntmps38
      go_wp2_with fail
      generalize (w.alloc (.cells #[.int .i64 a.d, .slice Aa a.ps.length ca] 39)).alloc (.cells #[.int .i64 b.d, .slice Ab b.ps.length cb] 39) = w1 at *
      clear hlb
      go_loopw [5] (fun vi wr => REq2 w w.heap.size a b vi wr) (fun vi _ => a.ps.length - (intOf vi).toNat)
      case atStart => exact r0
      case round =>
        clear r0
        obtain ⟨k, hk, rfl, he, ⟨A1, d1, ka, pa, la1⟩, ⟨A2, d2, kb, pb, lb1⟩, bw⟩ := hrel
        have HE := Lib.hid he
        clear he
        have e0 := ka.cell 1
        have e1 := kb.cell 1
        simp at e0 e1
        by_cases hlt : k < a.ps.length
        · have hlt2 : k < b.ps.length := by have := HL.out; omega
          have HR := Lib.hid (show LabB wr w.heap.size w.heap.size a from ⟨A1, d1, ka, pa, la1⟩)
          have HR2 := Lib.hid (show LabB wr (w.heap.size + 1) w.heap.size b from ⟨A2, d2, kb, pb, lb1⟩)
          obtain ⟨b1, o1, rfl, _, hc1⟩ := pa (by omega)
          obtain ⟨b2, o2, rfl, _, hc2⟩ := pb (by omega)
          obtain ⟨c1, c2⟩ := hc1 k hlt
          obtain ⟨c3, c4⟩ := hc2 k hlt2
          have i0 : (0 : Int) ≤ (k : Int) := by omega
          have i1 : (k : Int) < (a.ps.length : Int) := by omega
          have i2 : (k : Int) < (b.ps.length : Int) := by omega
          have BW := Lib.hid bw
          by_cases hp : a.ps[k] = b.ps[k]
          · have N := Lib.hid (show a.ps.take (k + 1) = b.ps.take (k + 1) by
              rw [List.take_succ_eq_append_getElem hlt, List.take_succ_eq_append_getElem hlt2, HE.out, hp])
            rw [hp] at c1 c2
            clear hc1 hc2 hp pa pb bw ka kb
            generalize b.ps[k] = pr at *
            obtain ⟨x, y⟩ := pr
            simp only at c1 c2 c3 c4
            go_wp2_with fail
            go_quiet (fail)
            go_wp2_with fail
            go_roundw
            case rel => exact ⟨k + 1, by omega, by go_num, N.out, HR.out.drewN _, HR2.out.drewN _, below_drewN BW.out _⟩
            case measure => simp [intOf]; omega
          · have hne := Lib.hid (show sameB a b = false by
              unfold sameB
              rw [decide_eq_false (p := a.ps = b.ps) (fun e => hp (List.getElem_of_eq e hlt))]; simp)
            have hb1 : (a.ps[k].1 == b.ps[k].1 && a.ps[k].2 == b.ps[k].2) = false := by
              cases h1 : (a.ps[k].1 == b.ps[k].1 && a.ps[k].2 == b.ps[k].2) with
              | false => rfl
              | true =>
                simp at h1
                exact absurd (Prod.ext h1.1 h1.2) hp
            clear hc1 hc2 hp pa pb bw ka kb
            generalize b.ps[k] = pr at *
            generalize a.ps[k] = pq at *
            obtain ⟨x, y⟩ := pr
            obtain ⟨x2, y2⟩ := pq
            simp only at c1 c2 c3 c4 hb1
            go_wp2_with fail
            go_quiet (fail)
            go_wp2_with fail
            go_ret
            exact ⟨ret_bool hne.out.symm, below_drewN BW.out _⟩
        · have hk2 : k = a.ps.length := by omega
          have hE := Lib.hid (show sameB a b = true by
            have := HE.out
            rw [hk2, List.take_of_length_le (by omega), List.take_of_length_le (by have := HL.out; omega)] at this
            exact (sameB_iff a b).2 (Lab.eq_of HD.out this))
          have BW := Lib.hid bw
          clear hk2 pa pb bw ka kb
          go_wp2_with fail
          go_ret
          exact ⟨ret_bool hE.out.symm, BW.out⟩
    · have hlb : ((a.ps.length : Int) != (b.ps.length : Int)) = true := by simp; omega
      have hne := Lib.hid (show sameB a b = false by
        unfold sameB
        rw [decide_eq_false (p := a.ps = b.ps) (fun e => hlen (by rw [e]))]; simp)
      clear pa pb hlen hd
      go_enter Try.func38, Try.ntmps38
      go_wp2_with fail
      go_ret
      exact ⟨ret_bool hne.out.symm, b0⟩
  · have hdb : (a.d != b.d) = true := bne_iff_ne.2 hd
    have HD := Lib.hid (show sameB a b = false by unfold sameB; rw [decide_eq_false hd]; rfl)
    clear hd pa pb
    go_enter Try.func38, Try.ntmps38
    go_wp2_with fail
    go_ret
    exact ⟨ret_bool HD.out.symm, b0⟩
end Go.Proofs.Ytihddficgpjgpaa
