/- The document's With. -/
import Derived.Test.YtihddficgpjgpaaRmerge
namespace Go.Proofs.Ytihddficgpjgpaa
open Go.RowKit Go.ChangeShapes Go.WideShapes Go.Shelf

def RWith (w : World) (a : Lab) (cs : List Int) (v7 : Value) (g : Int → Int) (v8 v9 : Value) (wr : World) : Prop :=
  ∃ k : Nat, k ≤ cs.length ∧ v9 = .int .i64 k ∧ wr.ownsRow w.heap.size 3 1 v8 k (i64s ((cs.take k).map g)) ∧ wr.ownsRow w.heap.size 70 1 v7 cs.length (u32s cs) ∧ LabB wr w.heap.size w.heap.size a ∧
    Blk wr (w.heap.size + 1) 39 #[.int .i64 0, .slice none 0 0] ∧ Below w.heap.size w wr

/-- The round behind the level's look-up. -/
structure WithIn (w wr : World) (a : Lab) (cs : List Int) (b7 c7 : Nat) (k : Nat) (A8 : Option Addr) (c8 : Nat) (g : Int → Int) : Prop where
  o8 : wr.ownsRow w.heap.size 3 1 (.slice A8 k c8) k (i64s ((cs.take k).map g))
  o7 : wr.ownsRow w.heap.size 70 1 (.slice (some ⟨b7, 0, none⟩) cs.length c7) cs.length (u32s cs)
  l1 : LabB wr w.heap.size w.heap.size a
  k6 : Blk wr (w.heap.size + 1) 39 #[.int .i64 0, .slice none 0 0]
  bl : Below w.heap.size w wr

theorem WithIn.next {w wr w4 : World} {a : Lab} {cs : List Int} {b7 c7 k : Nat} {A8 : Option Addr} {c8 : Nat} {g : Int → Int} {v4 : Value} {y : Int} (h : WithIn w wr a cs b7 c7 k A8 c8 g)
    (o4 : w4.ownsRow w.heap.size 3 1 v4 (k + 1) (i64s ((cs.take k).map g) ++ [.int .i64 y])) (g4 : (wr.alloc (.cells #[.int .i64 y] 3)).grownBy w4 (Value.slice A8 k c8).ownBlock) (hk : k < cs.length) (hy : g cs[k] = y) :
    RWith w a cs (.slice (some ⟨b7, 0, none⟩) cs.length c7) g v4 (.int .i64 ((k : Int) + 1)) w4 := by
  have hoa := h.o8.alloc (.cells #[.int .i64 y] 3)
  obtain ⟨A, c, h1, h2, h3⟩ := h.l1
  have hz := h.bl.size
  have q1 := h1.alloc (.cells #[.int .i64 y] 3)
  have q6 := h.k6.alloc (.cells #[.int .i64 y] 3)
  have q7 := h.o7.alloc (.cells #[.int .i64 y] 3)
  refine ⟨k + 1, by omega, by go_num, ?_, own_grown q7 g4 (fun x hx => ?_), ⟨A, c, q1.grown g4 (own_ne hoa q1 (by decide)), (h2.alloc hz _).keep (fun p hp => World.cell?_of_block (g4.block p.block (by simp; omega) (fun e => by have := (own_row_blk hoa e.symm).1; omega))), h3⟩, q6.grown g4 (own_ne hoa q6 (by decide)),
    (h.bl.alloc hz _).grown g4 (by simp; omega) (fun x hx => (own_row_blk hoa hx).1)⟩
  · rw [List.take_succ_eq_append_getElem hk, List.map_append]
    simp only [i64s, List.map_append, List.map_cons, List.map_nil, hy]
    exact o4
  · obtain ⟨_, cs', hb'⟩ := own_row_blk q7 hx
    exact own_ne hoa hb' (by decide)

theorem WithIn.moved {w wr w2 : World} {a : Lab} {cs : List Int} {b7 c7 k : Nat} {A8 : Option Addr} {c8 : Nat} {g : Int → Int} (h : WithIn w wr a cs b7 c7 k A8 c8 g) (hb2 : Below wr.drew.heap.size wr.drew w2) : WithIn w w2 a cs b7 c7 k A8 c8 g := by
  obtain ⟨A, c, h1, h2, h3⟩ := h.l1
  exact ⟨own_blw (w := wr.drew) h.o8 hb2, own_blw (w := wr.drew) h.o7 hb2, ⟨A, c, h1.drew.below hb2 h1.lt, h2.keep (w' := w2) (fun p hp => hb2.cell (by have := h.bl.size; show p.block < wr.heap.size; omega)), h3⟩, h.k6.drew.below hb2 h.k6.lt, (below_drewN h.bl 1).trans (hb2.mono h.bl.size)⟩
theorem World.cell?_alloc_some' (w : World) {a : Addr} {v : Value} (o : Obj) (h : w.cell? a = some v) : (w.alloc o).cell? a = some v :=
  (World.cell?_alloc_lt w o a (World.block_lt_of_cell? w a h)).trans h
def withF (c v : Int) (a : Lab) (x : Int) : Int := if x = c then v else a.lv x
set_option maxRecDepth 100000 in
set_option maxHeartbeats 1600000 in
theorem rwith_any (va : Value) (a : Lab) (c v : Int) (w : World) (ha : LabV w w.heap.size va a) (hga : Good a) (hc0 : 0 < c) (hl : a.ps.length ≤ 10000) :
    Calls Try.prog 82 #[va, .int .u32 c, .int .i64 v] w fun e w' => ∃ x, e = .returned x ∧ LabV w' w'.heap.size x (withL a c v) ∧ Below w.heap.size w w' := by
  obtain ⟨i0, hi0, hz0, hz1, hz2⟩ := info_parts Try.info3
  obtain ⟨Aa, ca, rfl, pa, la⟩ := ha
  have b0 := ((Below.refl w.heap.size w).alloc (Nat.le_refl _) (.cells #[.int .i64 a.d, .slice Aa a.ps.length ca] 39)).alloc (by simp) (.cells #[.int .i64 0, .slice none 0 0] 39)
  have k1 := ((Blk.new w 39 #[.int .i64 a.d, .slice Aa a.ps.length ca]).alloc (.cells #[.int .i64 0, .slice none 0 0] 39))
  have k2 := (Blk.new (w.alloc (.cells #[.int .i64 a.d, .slice Aa a.ps.length ca] 39)) 39 #[.int .i64 0, .slice none 0 0])
  rw [World.size_alloc] at k2
  have pa1 := pa.below b0
  have s0 : ((w.alloc (.cells #[.int .i64 a.d, .slice Aa a.ps.length ca] 39)).alloc (.cells #[.int .i64 0, .slice none 0 0] 39)).heap.size = w.heap.size + 1 + 1 := by simp
  clear pa
  go_enter Try.func82, Try.ntmps82
  go_wp2_with fail
  generalize (w.alloc (.cells #[.int .i64 a.d, .slice Aa a.ps.length ca] 39)).alloc (.cells #[.int .i64 0, .slice none 0 0] 39) = w1 at *
  have bq := b0.alloc b0.size (.cells #[.int .u32 c, .int .i64 0] 90)
  have kq := k1.alloc (.cells #[.int .u32 c, .int .i64 0] 90)
  have kr := k2.alloc (.cells #[.int .u32 c, .int .i64 0] 90)
  have pq := pa1.below ((Below.refl w.heap.size w1).alloc b0.size (.cells #[.int .u32 c, .int .i64 0] 90))
  have kn := Blk.new w1 90 #[.int .u32 c, .int .i64 0]
  have pn : PairsAt (w1.alloc (.cells #[.int .u32 c, .int .i64 0] 90)) (w1.alloc (.cells #[.int .u32 c, .int .i64 0] 90)).heap.size (some ⟨w1.heap.size, 0, none⟩) [(c, 0)] := fun _ =>
    ⟨w1.heap.size, 0, rfl, by simp, fun j hj => by
      obtain rfl : j = 0 := by simpa using hj
      exact ⟨(kn.cell 0).trans (by simp), (kn.cell 1).trans (by simp)⟩⟩
  rw [s0] at pn
  clear k1 k2 pa1 b0 kn s0
  generalize w1.alloc (.cells #[.int .u32 c, .int .i64 0] 90) = w1' at *
  refine (cats_any _ _ a ⟨0, [(c, 0)]⟩ w1' ⟨Aa, ca, rfl, pq.more bq.size, la⟩ ⟨_, 1, rfl, pn, Nat.le_refl _⟩ hga.rise ⟨hc0, True.intro⟩ (by simp; omega)).mono ?_
  rintro e w2 ⟨v7, cs, rfl, o7, hN, hb2⟩
  have hcl : cs.length ≤ 100000 := names_length hN (by simp; omega)
  have r0 : RWith w a cs v7 (withF c v a) (.slice none 0 0) (.int .i64 0) w2 :=
    ⟨0, Nat.zero_le _, rfl, World.ownsRow_nil _ _ _ _, own_mono o7 bq.size, ⟨Aa, ca, kq.below hb2 kq.lt, pq.below (hb2.mono bq.size), la⟩, kr.below hb2 kr.lt, bq.trans (hb2.mono bq.size)⟩
  obtain ⟨A7, c7, rfl⟩ := own_slice o7
  have HN := Lib.hid (make_with (v := v) hga hc0 hN)
  clear o7 hN hb2 pq la kq kr bq pn hga
  go_wp2_with fail
  go_loopw [8, 9] (fun v8 v9 wr => RWith w a cs (.slice A7 cs.length c7) (withF c v a) v8 v9 wr) (fun _ v9 _ => cs.length - (intOf v9).toNat)
  case atStart => exact r0
  case round =>
    clear r0
    obtain ⟨k, hk, rfl, o8, o7, l1, k6, hb⟩ := hrel
    obtain ⟨A8, c8, rfl⟩ := own_slice o8
    obtain ⟨A1, d1, ka, va⟩ := l1.labV hb.size
    by_cases hlt : k < cs.length
    · obtain ⟨b7, cur7, rfl, _, kc, _, _, hs7, ht7⟩ := own_blk o7 (by omega)
      have x5 : wr.cell? ⟨b7, k, none⟩ = some (.int .u32 cs[k]) := by
        rw [kc.cell]
        have e : (u32s cs)[k]? = some (.int .u32 cs[k]) := by simp [u32s, hlt]
        rw [← ht7, List.getElem?_take, if_pos (by omega)] at e
        simpa using e
      have hb7 := kc.lt
      have x1 := ka.cell 0
      have x2 := ka.cell 1
      simp at x1 x2
      have i0' : (0 : Int) ≤ (k : Int) ∧ (k : Int) < (cs.length : Int) := by omega
      have h3 := ka.lt
      have hbs := hb.size
      have HT0 : WithIn w wr a cs b7 c7 k A8 c8 (withF c v a) := ⟨o8, o7, l1, k6, hb⟩
      have hmem := List.getElem_mem hlt
      by_cases hcx : cs[k] = c
      · have hcb : ((cs[k] : Int) == c) = true := by simpa using hcx
        have HY := Lib.hid (show withF c v a cs[k] = v by unfold withF; rw [if_pos hcx])
        have HT := Lib.hid HT0
        have ho := o8.alloc (.cells #[.int .i64 v] 3)
        have hcn := Lib.hid (cell_one_new wr (.int .i64 v) 3)
        clear ht7 hs7 kc va o7 o8 k6 l1 hb ka HT0 hmem hcx x1 x2
        generalize cs[k] = x at x5 hcb
        go_wp2_with (at_builtin; refine wpList_append_own_at _ rfl _ _ 34 rfl w.heap.size 3 i0 _ 1 8 Try.underlying34 hi0 hz0 hz1 hz2 rfl (by decide) (.slice A8 k c8) _ _ rfl ho ⟨wr.heap.size, 0, none⟩ 1 1 [.int .i64 v] rfl rfl hcn.out (by intro u hu; simp at hu; subst hu; rfl) (by unfold maxLen; omega) (by omega) (by simp; omega) ?_; intro v4 w4 o4 g4 _ _)
        have R := Lib.hid (HT.out.next o4 g4 hlt (by rw [HY.out]))
        clear o4 g4 ho
        go_roundw
        case rel => exact R.out
        case measure => simp [intOf]; omega
      · have hcb : ((cs[k] : Int) == c) = false := by simpa using hcx
        have HY := Lib.hid (show withF c v a cs[k] = a.lv cs[k] by unfold withF; rw [if_neg hcx])
        have C1 := Lib.hid (rat_any _ a cs[k] wr.drew (va.keep (fun _ _ => rfl)) (by omega))
        have HT := Lib.hid HT0
        have KC := Lib.hid kc
        obtain ⟨y, hy⟩ : ∃ y, a.lv cs[k] = y := ⟨_, rfl⟩
        have HY2 := Lib.hid hy
        rw [hy] at C1
        clear ht7 hs7 kc va o7 o8 k6 l1 hb ka HT0 hmem hcx hy
        generalize cs[k] = x at x5 hcb C1
        go_wp2_with fail
        go_region_held3 (fun w' => w'.cell? ⟨w.heap.size, 0, none⟩ = some (.int .i64 a.d) ∧ w'.cell? ⟨w.heap.size, 1, none⟩ = some (.slice A1 a.ps.length d1) ∧ w'.cell? ⟨b7, k, none⟩ = some (.int .u32 x))
          (first
            | exact ⟨x1, x2, x5⟩
            | exact ⟨y1, y2, y5⟩
            | exact ⟨t1, t2, t5⟩
            | go_keep)
          (first
            | (go_at_call 81; refine C1.out.mono ?_; clear C1; rintro e w2 ⟨rfl, hb2⟩
               have y1 := (hb2.cell (p := ⟨w.heap.size, 0, none⟩) h3).trans x1
               have y2 := (hb2.cell (p := ⟨w.heap.size, 1, none⟩) h3).trans x2
               have y5 := (hb2.cell (p := ⟨b7, k, none⟩) hb7).trans x5
               have T := Lib.hid (HT.out.moved hb2)
               have kq1 := T.out.l1
               obtain ⟨A1', d1', kq2, _⟩ := kq1
               have Q1 := Lib.hid (kq2.alloc (.cells #[.int .i64 y] 3))
               have Q7 := Lib.hid ((KC.out.drew.below hb2 KC.out.lt).alloc (.cells #[.int .i64 y] 3))
               have OO := Lib.hid (T.out.o8.alloc (.cells #[.int .i64 y] 3))
               have hs2 := T.out.bl.size
               have u1 := World.cell?_alloc_some' w2 (.cells #[.int .i64 y] 3) y1
               have u2 := World.cell?_alloc_some' w2 (.cells #[.int .i64 y] 3) y2
               have u5 := World.cell?_alloc_some' w2 (.cells #[.int .i64 y] 3) y5)
            | ((refine step_append_any _ rfl (.tmp 32) (.tmp 39) 34 rfl w.heap.size 3 i0 _ 1 8 Try.underlying34 hi0 hz0 hz1 hz2 rfl (by decide) (.slice A8 k c8) k _ (by rfl) OO.out _ _ 1 1 [.int .i64 y] (by rfl) (reads_new1 w2 _ 3) (by intro u hu; simp at hu; subst hu; rfl) (by unfold maxLen; omega) (by omega) (by simp; omega) ?_; intro v4 w4 o4 g4 a4
                have t1 := (cell_grown g4 (b := w.heap.size) (o := 0) Q1.out.lt (own_ne OO.out Q1.out (by decide))).trans u1
                have t2 := (cell_grown g4 (b := w.heap.size) (o := 1) Q1.out.lt (own_ne OO.out Q1.out (by decide))).trans u2
                have t5 := (cell_grown g4 (b := b7) (o := k) Q7.out.lt (own_ne OO.out Q7.out (by decide))).trans u5)))
        have R := Lib.hid (T.out.next o4 g4 hlt (by rw [HY.out, HY2.out]))
        clear x1 x2 x5 y1 y2 y5 t1 t2 t5 u1 u2 u5 o4 g4 a4 hb2 kq2
        go_wp2_with fail
        go_roundw
        case rel => exact R.out
        case measure => simp [intOf]; omega
    · obtain rfl : k = cs.length := by omega
      rw [List.take_length] at o8
      have e8 : (cs.map (withF c v a)).length = cs.length := by simp
      have x1 := ka.cell 0
      have hi7 := own_ints (k := .u32) o7
      have hi8 := own_ints (k := .i64) (q := cs.map (withF c v a)) (A := A8) (c := c8) (B := w.heap.size) (by rw [e8]; exact o8)
      simp at x1
      have HM := Lib.hid (make_any A7 A8 c7 c8 a.d cs (withF c v a) wr hi7 hi8 (by omega))
      have K3 := Lib.hid k6
      have HB := Lib.hid hb
      have hbs := hb.size
      clear o8 o7 k6 hb hi7 hi8 ka va l1 e8
      go_wp2_with fail
      refine HM.out.mono ?_
      rintro e w5 ⟨v5, rfl, hv5, hb5⟩
      have hfin : makeL a.d cs (withF c v a) = withL a c v := HN.out
      rw [hfin] at hv5
      obtain ⟨A9, c9, rfl, hp9, hc9⟩ := hv5
      have k6 := K3.out.below hb5 K3.out.lt
      have hS := stored_of (w := w) (l := withL a c v) k6 hp9 hc9 (HB.out.trans (hb5.mono hbs)) (by omega)
      have HS := Lib.hid hS
      have e2 := k6.cell 0
      have e3 := k6.cell 1
      have f2 := k6.frozen 0
      have f3 := k6.frozen 1
      simp at e2 e3
      clear hS k6 hp9 hb5 hc9 hfin
      go_wp2
      refine bodyPost_ret (results_cell_row rfl _ _ (w.heap.size + 1) 39 #[.int .i64 (withL a c v).d, .slice A9 (withL a c v).ps.length c9] (0, 0) _ (by rfl) HS.out.blk Try.underlying39 rfl (by kernel_rfl)) rfl ?_
      exact ⟨_, rfl, HS.out.lab, HS.out.bl⟩
end Go.Proofs.Ytihddficgpjgpaa
