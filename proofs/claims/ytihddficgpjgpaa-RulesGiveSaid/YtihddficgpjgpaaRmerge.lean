/- The document's Merge. -/
import Derived.Test.YtihddficgpjgpaaMake
namespace Go.Proofs.Ytihddficgpjgpaa
open Go.RowKit Go.ChangeShapes Go.WideShapes Go.Shelf

theorem Try.info3 : (Try.prog.info? 3).map (fun i => (i.zero, i.size, i.bytes)) = some (some (.int .i64 0), 1, 8) := by kernel_rfl
def i64s (l : List Int) : List Value := l.map (Value.int .i64)
theorem LabB.labV {w : World} {g B : Nat} {l : Lab} (h : LabB w g B l) (hB : B ≤ w.heap.size) : ∃ A c, Blk w g 39 #[.int .i64 l.d, .slice A l.ps.length c] ∧ LabV w w.heap.size (.agg #[.int .i64 l.d, .slice A l.ps.length c]) l := by
  obtain ⟨A, c, h1, h2, h3⟩ := h
  exact ⟨A, c, h1, A, c, rfl, h2.more hB, h3⟩
theorem LabB.grown {w w' : World} {g B : Nat} {l : Lab} {row : Option Nat} (h : LabB w g B l) (hg : w.grownBy w' row) (hB : B ≤ w.heap.size) (hne : some g ≠ row) (hr : ∀ x, row = some x → B ≤ x) : LabB w' g B l := by
  obtain ⟨A, c, h1, h2, h3⟩ := h
  exact ⟨A, c, h1.grown hg hne, h2.keep (fun p hp => World.cell?_of_block (hg.block p.block (by omega) (fun e => by have := hr _ e.symm; omega))), h3⟩

theorem names_length {a b : Lab} {cs : List Int} (h : Names a b cs) {n : Nat} (hl : a.ps.length + b.ps.length ≤ n) : cs.length ≤ n := by
  have h1 := rise_len (ps := a.ps ++ b.ps) h.1 (fun x hx => by
    rcases (h.2 x).1 hx with ⟨p, hp, e⟩ | ⟨p, hp, e⟩
    · exact ⟨p, List.mem_append_left _ hp, e⟩
    · exact ⟨p, List.mem_append_right _ hp, e⟩)
  have h2 := Nat.le_trans h1 (List.length_filter_le _ _)
  rw [List.length_append] at h2
  omega

theorem LabV.keep2 {wr w2 : World} {v : Value} {l : Lab} (h : LabV wr wr.heap.size v l) (hb : Below wr.drew.heap.size wr.drew w2) : LabV w2 w2.heap.size v l := by
  obtain ⟨A, c, h1, h2, h3⟩ := h
  exact ⟨A, c, h1, (h2.keep (w' := w2) (fun p hp => hb.cell hp)).more hb.size, h3⟩

theorem reads_new1 (W : World) (u : Value) (t : TypeId) : Reads (W.alloc (.cells #[u] t)) (W.heap.size + 1) 1 (some ⟨W.heap.size, 0, none⟩) 1 [u] :=
  ⟨rfl, fun _ => ⟨_, rfl, Nat.lt_succ_self _, fun j x hx => by
    rw [add_none, Nat.zero_add]
    refine ((Blk.new W t #[u]).cell j).trans ?_
    rw [← hx]; simp⟩⟩
theorem own_blw {w w' : World} {B n size : Nat} {e : TypeId} {v : Value} {xs : List Value} (h : w.ownsRow B e size v n xs) (hb : Below w.heap.size w w') : w'.ownsRow B e size v n xs := by
  refine ⟨h.1, ?_⟩
  rcases h.2 with h1 | ⟨g', cap, cur, h0, h1, h2, h3⟩
  · exact .inl h1
  · exact .inr ⟨g', cap, cur, h0, h1, Blk.below (g := g') h2 hb (Blk.lt (g := g') h2), h3⟩

theorem LabB.drew_ {w : World} {g B : Nat} {l : Lab} (h : LabB w g B l) : LabB w.drew g B l := h
theorem LabB.alloc_ {w : World} {g B : Nat} {l : Lab} (h : LabB w g B l) (hB : B ≤ w.heap.size) (o : Obj) : LabB (w.alloc o) g B l := by
  obtain ⟨A, c, h1, h2, h3⟩ := h
  exact ⟨A, c, h1.alloc o, h2.alloc hB o, h3⟩

def RMerge (w : World) (a b : Lab) (cs : List Int) (v7 : Value) (f : Int → Int → Int) (v8 v9 : Value) (wr : World) : Prop :=
  ∃ k : Nat, k ≤ cs.length ∧ v9 = .int .i64 k ∧ wr.ownsRow w.heap.size 3 1 v8 k (i64s ((cs.take k).map fun c => f (a.lv c) (b.lv c))) ∧ wr.ownsRow w.heap.size 70 1 v7 cs.length (u32s cs) ∧ LabB wr w.heap.size w.heap.size a ∧ LabB wr (w.heap.size + 1) w.heap.size b ∧
    Blk wr (w.heap.size + 2) 39 #[.int .i64 0, .slice none 0 0] ∧ Below w.heap.size w wr

set_option maxRecDepth 100000 in
set_option maxHeartbeats 1600000 in
theorem rmerge_any (hw : Int) (f : Int → Int → Int) (h1 : ∀ x y w, Calls Try.prog 113 #[.int .i64 x, .int .i64 y, .int .u8 hw] w fun e w' => e = .returned (.int .i64 (f x y)) ∧ w = w')
    (va vb : Value) (a b : Lab) (w : World) (ha : LabV w w.heap.size va a) (hb : LabV w w.heap.size vb b) (hga : Good a) (hgb : Good b) (hl : a.ps.length + b.ps.length ≤ 100000) :
    Calls Try.prog 75 #[va, vb, .int .u8 hw] w fun e w' => ∃ v, e = .returned v ∧ LabV w' w'.heap.size v (mergeL f a b) ∧ Below w.heap.size w w' := by
  obtain ⟨i0, hi0, hz0, hz1, hz2⟩ := info_parts Try.info3
  obtain ⟨Aa, ca, rfl, pa, la⟩ := ha
  obtain ⟨Ab, cb, rfl, pb, lb⟩ := hb
  have H1 := Lib.hid h1
  have b0 := (((Below.refl w.heap.size w).alloc (Nat.le_refl _) (.cells #[.int .i64 a.d, .slice Aa a.ps.length ca] 39)).alloc (by simp) (.cells #[.int .i64 b.d, .slice Ab b.ps.length cb] 39)).alloc (by simp; omega) (.cells #[.int .i64 0, .slice none 0 0] 39)
  have s0 : (((w.alloc (.cells #[.int .i64 a.d, .slice Aa a.ps.length ca] 39)).alloc (.cells #[.int .i64 b.d, .slice Ab b.ps.length cb] 39)).alloc (.cells #[.int .i64 0, .slice none 0 0] 39)).heap.size = w.heap.size + 1 + 1 + 1 := by simp
  have k1 := ((Blk.new w 39 #[.int .i64 a.d, .slice Aa a.ps.length ca]).alloc (.cells #[.int .i64 b.d, .slice Ab b.ps.length cb] 39)).alloc (.cells #[.int .i64 0, .slice none 0 0] 39)
  have k2 := (Blk.new (w.alloc (.cells #[.int .i64 a.d, .slice Aa a.ps.length ca] 39)) 39 #[.int .i64 b.d, .slice Ab b.ps.length cb]).alloc (.cells #[.int .i64 0, .slice none 0 0] 39)
  have k3 := Blk.new ((w.alloc (.cells #[.int .i64 a.d, .slice Aa a.ps.length ca] 39)).alloc (.cells #[.int .i64 b.d, .slice Ab b.ps.length cb] 39)) 39 #[.int .i64 0, .slice none 0 0]
  rw [World.size_alloc] at k2
  rw [World.size_alloc, World.size_alloc] at k3
  have pa1 := pa.below b0
  have pb1 := pb.below b0
  clear h1 pa pb
  go_enter Try.func75, Try.ntmps75
  go_wp2_with fail
  generalize ((w.alloc (.cells #[.int .i64 a.d, .slice Aa a.ps.length ca] 39)).alloc (.cells #[.int .i64 b.d, .slice Ab b.ps.length cb] 39)).alloc (.cells #[.int .i64 0, .slice none 0 0] 39) = w1 at *
  refine (cats_any _ _ a b w1 ⟨Aa, ca, rfl, pa1.more b0.size, la⟩ ⟨Ab, cb, rfl, pb1.more b0.size, lb⟩ hga.rise hgb.rise hl).mono ?_
  rintro e w2 ⟨v7, cs, rfl, o7, hN, hb2⟩
  have hcl : cs.length ≤ 100000 := names_length hN hl
  have r0 : RMerge w a b cs v7 f (.slice none 0 0) (.int .i64 0) w2 :=
    ⟨0, Nat.zero_le _, rfl, World.ownsRow_nil _ _ _ _, own_mono o7 b0.size, ⟨Aa, ca, k1.below hb2 k1.lt, pa1.below (hb2.mono b0.size), la⟩, ⟨Ab, cb, k2.below hb2 k2.lt, pb1.below (hb2.mono b0.size), lb⟩, k3.below hb2 k3.lt, b0.trans (hb2.mono b0.size)⟩
  obtain ⟨A7, c7, rfl⟩ := own_slice o7
  have HN := Lib.hid hN
  clear o7 hN hb2 pa1 pb1 la lb k1 k2 k3 b0 s0
  go_wp2_with fail
  go_loopw [8, 9] (fun v8 v9 wr => RMerge w a b cs (.slice A7 cs.length c7) f v8 v9 wr) (fun _ v9 _ => cs.length - (intOf v9).toNat)
  case atStart => exact r0
  case round =>
    clear r0
    obtain ⟨k, hk, rfl, o8, o7, l1, l2, k3, hb⟩ := hrel
    obtain ⟨A8, c8, rfl⟩ := own_slice o8
    obtain ⟨A1, d1, ka, va⟩ := l1.labV hb.size
    obtain ⟨A2, d2, kb, vb⟩ := l2.labV hb.size
    by_cases hlt : k < cs.length
    · obtain ⟨b7, cur7, rfl, _, kc, _, _, hs7, ht7⟩ := own_blk o7 (by omega)
      have x5 : wr.cell? ⟨b7, k, none⟩ = some (.int .u32 cs[k]) := by
        rw [kc.cell]
        have e : (u32s cs)[k]? = some (.int .u32 cs[k]) := by simp [u32s, hlt]
        rw [← ht7, List.getElem?_take, if_pos (by omega)] at e
        simpa using e
      have hb7 := kc.lt
      have KC := Lib.hid kc
      have hm : (cs.take (k + 1)).map (fun c => f (a.lv c) (b.lv c)) = (cs.take k).map (fun c => f (a.lv c) (b.lv c)) ++ [f (a.lv cs[k]) (b.lv cs[k])] := by
        rw [List.take_succ_eq_append_getElem hlt, List.map_append]; rfl
      have HM := Lib.hid hm
      have x1 := ka.cell 0
      have x2 := ka.cell 1
      have x3 := kb.cell 0
      have x4 := kb.cell 1
      simp at x1 x2 x3 x4
      have i0' : (0 : Int) ≤ (k : Int) ∧ (k : Int) < (cs.length : Int) := by omega
      have h3 := ka.lt
      have h4 := kb.lt
      have hbs := hb.size
      have VB := Lib.hid vb
      have C1 := Lib.hid (rat_any _ a cs[k] wr.drew (va.keep (fun _ _ => rfl)) (by omega))
      have O8 := Lib.hid o8
      have O7 := Lib.hid o7
      have K3 := Lib.hid k3
      have L1 := Lib.hid l1
      have L2 := Lib.hid l2
      have K1 := Lib.hid ka
      have K2 := Lib.hid kb
      have HB := Lib.hid hb
      clear hm ht7 hs7 kc vb va o8 o7 k3 l1 l2 hb ka kb hga hgb
      generalize cs[k] = x at *
      go_wp2_with fail
      go_region_held3 (fun w' => w'.cell? ⟨w.heap.size, 0, none⟩ = some (.int .i64 a.d) ∧ w'.cell? ⟨w.heap.size, 1, none⟩ = some (.slice A1 a.ps.length d1) ∧ w'.cell? ⟨w.heap.size + 1, 0, none⟩ = some (.int .i64 b.d) ∧ w'.cell? ⟨w.heap.size + 1, 1, none⟩ = some (.slice A2 b.ps.length d2) ∧ w'.cell? ⟨b7, k, none⟩ = some (.int .u32 x))
        (first
          | exact ⟨x1, x2, x3, x4, x5⟩
          | exact ⟨y1, y2, y3, y4, y5⟩
          | exact ⟨z1, z2, z3, z4, z5⟩
          | exact ⟨t1, t2, t3, t4, t5⟩
          | go_keep)
        (first
          | (go_at_call 81; refine C1.out.mono ?_; clear C1; rintro e w2 ⟨rfl, hb2⟩
             have y1 := (hb2.cell (p := ⟨w.heap.size, 0, none⟩) h3).trans x1
             have y2 := (hb2.cell (p := ⟨w.heap.size, 1, none⟩) h3).trans x2
             have y3 := (hb2.cell (p := ⟨w.heap.size + 1, 0, none⟩) h4).trans x3
             have y4 := (hb2.cell (p := ⟨w.heap.size + 1, 1, none⟩) h4).trans x4
             have y5 := (hb2.cell (p := ⟨b7, k, none⟩) hb7).trans x5)
          | (go_at_call 81; go_loud ((refine (rat_any _ b x w2 (VB.out.keep2 hb2) (by omega)).mono ?_; rintro e w3 ⟨rfl, hb3⟩; have hbb : Below wr.heap.size wr.drew w3 := hb2.trans (hb3.mono hb2.size); have z1 := (hbb.cell (p := ⟨w.heap.size, 0, none⟩) h3).trans x1; have z2 := (hbb.cell (p := ⟨w.heap.size, 1, none⟩) h3).trans x2; have z3 := (hbb.cell (p := ⟨w.heap.size + 1, 0, none⟩) h4).trans x3; have z4 := (hbb.cell (p := ⟨w.heap.size + 1, 1, none⟩) h4).trans x4; have z5 := (hbb.cell (p := ⟨b7, k, none⟩) hb7).trans x5; have oo := (own_blw (w := wr.drew) O8.out hbb).alloc (.cells #[.int .i64 (f (a.lv x) (b.lv x))] 3); have q1 := (K1.out.drew.below hbb h3).alloc (.cells #[.int .i64 (f (a.lv x) (b.lv x))] 3); have q2 := (K2.out.drew.below hbb h4).alloc (.cells #[.int .i64 (f (a.lv x) (b.lv x))] 3); have q7 := (own_blw (w := wr.drew) O7.out hbb).alloc (.cells #[.int .i64 (f (a.lv x) (b.lv x))] 3); have OO := Lib.hid oo; have Q1 := Lib.hid q1; have Q2 := Lib.hid q2; have Q7 := Lib.hid q7; have u5 := (World.cell?_alloc_lt w3 (.cells #[.int .i64 (f (a.lv x) (b.lv x))] 3) ⟨b7, k, none⟩ (by have := hbb.size; show b7 < w3.heap.size; have : wr.drew.heap.size = wr.heap.size := rfl; omega)).trans z5; clear oo q1 q2 q7)))
          | ((refine step_append_any _ rfl (.tmp 19) (.tmp 34) 34 rfl w.heap.size 3 i0 _ 1 8 Try.underlying34 hi0 hz0 hz1 hz2 rfl (by decide) (.slice A8 k c8) k _ (by rfl) OO.out _ _ 1 1 [.int .i64 (f (a.lv x) (b.lv x))] (by rfl) (reads_new1 w3 _ 3) (by intro u hu; simp at hu; subst hu; rfl) (by unfold maxLen; omega) (by omega) (by simp; have := hbb.size; have : wr.drew.heap.size = wr.heap.size := rfl; omega) ?_; intro v4 w4 o4 g4 a4
              have j1 := Q1.out.grown g4 (own_ne OO.out Q1.out (by decide))
              have j2 := Q2.out.grown g4 (own_ne OO.out Q2.out (by decide))
              have t1 := j1.cell 0
              have t2 := j1.cell 1
              have t3 := j2.cell 0
              have t4 := j2.cell 1
              simp at t1 t2 t3 t4
              have t5 := (cell_grown g4 (b := b7) (o := k) (by have := hbb.size; show b7 < (w3.alloc _).heap.size; simp; have : wr.drew.heap.size = wr.heap.size := rfl; omega) (own_ne OO.out ((KC.out.drew.below hbb KC.out.lt).alloc _) (by decide))).trans u5))
          | (go_at_call 113; refine (H1.out _ _ _).mono ?_; rintro e w' ⟨rfl, rfl⟩))
      have P1 := Lib.hid ((((LabB.drew_ L1.out).below hbb (show w.heap.size ≤ wr.heap.size from hbs) h3).alloc_ (Nat.le_trans hbs hbb.size) (.cells #[.int .i64 (f (a.lv x) (b.lv x))] 3)).grown g4 (by simp; have := hbb.size; have : wr.drew.heap.size = wr.heap.size := rfl; omega) (own_ne OO.out Q1.out (by decide)) (fun y hy => (own_row_blk OO.out hy).1))
      have P2 := Lib.hid ((((LabB.drew_ L2.out).below hbb (show w.heap.size ≤ wr.heap.size from hbs) h4).alloc_ (Nat.le_trans hbs hbb.size) (.cells #[.int .i64 (f (a.lv x) (b.lv x))] 3)).grown g4 (by simp; have := hbb.size; have : wr.drew.heap.size = wr.heap.size := rfl; omega) (own_ne OO.out Q2.out (by decide)) (fun y hy => (own_row_blk OO.out hy).1))
      have q3 := (K3.out.drew.below hbb K3.out.lt).alloc (.cells #[.int .i64 (f (a.lv x) (b.lv x))] 3)
      have P3 := Lib.hid (q3.grown g4 (own_ne OO.out q3 (by decide)))
      have P7 := Lib.hid (own_grown Q7.out g4 (fun y hy => by
        obtain ⟨_, cs', hb'⟩ := own_row_blk Q7.out hy
        exact own_ne OO.out hb' (by decide)))
      have PB := Lib.hid ((((below_drewN HB.out 1).trans (hbb.mono hbs)).alloc (Nat.le_trans hbs hbb.size) (.cells #[.int .i64 (f (a.lv x) (b.lv x))] 3)).grown g4 (by simp; have := hbb.size; have : wr.drew.heap.size = wr.heap.size := rfl; omega) (fun y hy => (own_row_blk OO.out hy).1))
      have P8 : Hid (w4.ownsRow w.heap.size 3 1 v4 (k + 1) (i64s ((cs.take (k + 1)).map fun c => f (a.lv c) (b.lv c)))) := by
        show w4.ownsRow _ _ _ _ _ _
        rw [HM.out]
        simpa [i64s] using o4
      clear x1 x2 x3 x4 x5 y1 y2 y3 y4 y5 z1 z2 z3 z4 z5 t1 t2 t3 t4 t5 u5 j1 j2 q3 o4 a4
      go_wp2_with fail
      go_roundw
      case rel => exact ⟨k + 1, by omega, by go_num, P8.out, P7.out, P1.out, P2.out, P3.out, PB.out⟩
      case measure => simp [intOf]; omega
    · obtain rfl : k = cs.length := by omega
      rw [List.take_length] at o8
      have e8 : (cs.map fun c => f (a.lv c) (b.lv c)).length = cs.length := by simp
      have x1 := ka.cell 0
      have x3 := kb.cell 0
      have f0 := k3.frozen 0
      have f1 := k3.frozen 1
      have hi7 := own_ints (k := .u32) o7
      have hi8 := own_ints (k := .i64) (q := cs.map fun c => f (a.lv c) (b.lv c)) (A := A8) (c := c8) (B := w.heap.size) (by rw [e8]; exact o8)
      simp at x1 x3
      have HM := Lib.hid (make_any A7 A8 c7 c8 (f a.d b.d) cs (fun c => f (a.lv c) (b.lv c)) wr hi7 hi8 (by omega))
      have HMM := Lib.hid (make_merge f hga hgb HN.out)
      have K3 := Lib.hid k3
      have HB := Lib.hid hb
      have hbs := hb.size
      clear o8 o7 k3 hb hi7 hi8 ka kb va vb l1 l2 f0 f1 e8
      go_wp2_with (go_at_call 113; refine (H1.out _ _ _).mono ?_; rintro e w' ⟨rfl, rfl⟩)
      refine HM.out.mono ?_
      rintro e w5 ⟨v5, rfl, hv5, hb5⟩
      rw [HMM.out] at hv5
      obtain ⟨A9, c9, rfl, hp9, hc9⟩ := hv5
      have k6 := K3.out.below hb5 K3.out.lt
      have hS := stored_of (w := w) (l := mergeL f a b) k6 hp9 hc9 (HB.out.trans (hb5.mono hbs)) (by omega)
      have HS := Lib.hid hS
      have e2 := k6.cell 0
      have e3 := k6.cell 1
      have f2 := k6.frozen 0
      have f3 := k6.frozen 1
      simp at e2 e3
      clear hS k6 hp9 hb5 hc9
      go_wp2
      refine bodyPost_ret (results_cell_row rfl _ _ (w.heap.size + 2) 39 #[.int .i64 (mergeL f a b).d, .slice A9 (mergeL f a b).ps.length c9] (0, 0) _ (by rfl) HS.out.blk Try.underlying39 rfl (by kernel_rfl)) rfl ?_
      exact ⟨_, rfl, HS.out.lab, HS.out.bl⟩
end Go.Proofs.Ytihddficgpjgpaa
