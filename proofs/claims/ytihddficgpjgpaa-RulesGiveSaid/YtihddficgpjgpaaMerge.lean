/- label.merge: a label of levels made of two others'. -/
import Derived.Test.YtihddficgpjgpaaBoth
namespace Go.Proofs.Ytihddficgpjgpaa
open Go.RowKit Go.ChangeShapes Go.WideShapes Go.Shelf

/-- What has come of some triples. -/
def outL (f : Int → Int → Int) : List (Int × Int × Int) → Lab
  | [] => ⟨0, []⟩
  | x :: t => ⟨f x.2.1 x.2.2, (t.map fun x => (x.1, f x.2.1 x.2.2)).filter fun p => decide (p.2 ≠ f x.2.1 x.2.2)⟩
theorem outL_all (f : Int → Int → Int) (a b : Lab) : outL f (bothL a b) = mergeL f a b := rfl

theorem own_set {w : World} {B n g size : Nat} {e t : TypeId} {v : Value} {xs : List Value} {cs : Array Value} {i : Nat} (h : w.ownsRow B e size v n xs) (hg : Blk w g t cs) (hne : e ≠ t) (u : Value) : (w.setCell ⟨g, i, none⟩ u).ownsRow B e size v n xs := by
  refine ⟨h.1, ?_⟩
  rcases h.2 with h1 | ⟨g', cap, cur, h0, h1, h2, h3⟩
  · exact .inl h1
  · exact .inr ⟨g', cap, cur, h0, h1, Blk.far (g := g') h2 (Blk.ne_ (w := w) (g := g') h2 hg hne) u, h3⟩
theorem merge1_zero (fk : Nat) (fcaps : Array Value) (egf : ∀ args w, (callFunc fk args).run Try.prog w = .ok (.enter fk args) w) (gf go : Nat) (x y n : Int) (A : Option Addr) (m c : Nat) (d : Int) (w : World)
    (hf : Calls Try.prog fk (#[.int .i64 x, .int .i64 y] ++ fcaps) w fun e w' => e = .returned (.int .i64 n) ∧ w = w')
    (hgf : Blk w gf 133 #[.func (.func fk) #[] fcaps]) (hgo : Blk w go 39 #[.int .i64 d, .slice A m c]) :
    Calls Try.prog 128 #[.int .u32 0, .int .i64 x, .int .i64 y, .pointer (some ⟨gf, 0, none⟩), .pointer (some ⟨go, 0, none⟩)] w fun e w' => e = .returned (.bool true) ∧ w' = w.setCell ⟨go, 0, none⟩ (.int .i64 n) := by
  have e0 := hgf.cell 0
  have e1 := hgo.cell 0
  have f1 := hgo.frozen 0
  simp at e0 e1
  have HF := Lib.hid hf
  clear hgf hgo hf
  go_enter Try.func128, Try.ntmps128
  go_wp2_with (go_at_fn fk; refine HF.out.mono ?_; rintro e w' ⟨rfl, rfl⟩)
  go_ret
  exact ⟨rfl, rfl⟩

set_option maxHeartbeats 400000 in
theorem merge1_skip (fk : Nat) (fcaps : Array Value) (egf : ∀ args w, (callFunc fk args).run Try.prog w = .ok (.enter fk args) w) (gf go : Nat) (cat x y d : Int) (A : Option Addr) (m c : Nat) (w : World) (hcat : 0 < cat)
    (hf : Calls Try.prog fk (#[.int .i64 x, .int .i64 y] ++ fcaps) w fun e w' => e = .returned (.int .i64 d) ∧ w = w')
    (hgf : Blk w gf 133 #[.func (.func fk) #[] fcaps]) (hgo : Blk w go 39 #[.int .i64 d, .slice A m c]) :
    Calls Try.prog 128 #[.int .u32 cat, .int .i64 x, .int .i64 y, .pointer (some ⟨gf, 0, none⟩), .pointer (some ⟨go, 0, none⟩)] w fun e w' => e = .returned (.bool true) ∧ w = w' := by
  have e0 := hgf.cell 0
  have e1 := hgo.cell 0
  simp at e0 e1
  have HF := Lib.hid hf
  have hb : (cat == 0) = false := by simp; omega
  clear hgf hgo hf
  go_enter Try.func128, Try.ntmps128
  go_wp2_with (go_at_fn fk; refine HF.out.mono ?_; rintro e w' ⟨rfl, rfl⟩)
  go_ret
  exact ⟨rfl, rfl⟩

set_option maxRecDepth 100000 in
set_option maxHeartbeats 800000 in
theorem merge1_put (fk : Nat) (fcaps : Array Value) (egf : ∀ args w, (callFunc fk args).run Try.prog w = .ok (.enter fk args) w) (gf go B : Nat) (cat x y d n : Int) (A : Option Addr) (c : Nat) (ps : List (Int × Int)) (w : World) (hcat : 0 < cat) (hnd : n ≠ d) (hl : ps.length ≤ 1000000)
    (hf : Calls Try.prog fk (#[.int .i64 x, .int .i64 y] ++ fcaps) w fun e w' => e = .returned (.int .i64 n) ∧ w = w')
    (hgf : Blk w gf 133 #[.func (.func fk) #[] fcaps]) (hgo : Blk w go 39 #[.int .i64 d, .slice A ps.length c]) (hown : w.ownsRow B 90 2 (.slice A ps.length c) ps.length (pcells ps)) (hB : B ≤ w.heap.size) (hBo : B ≤ go) :
    Calls Try.prog 128 #[.int .u32 cat, .int .i64 x, .int .i64 y, .pointer (some ⟨gf, 0, none⟩), .pointer (some ⟨go, 0, none⟩)] w fun e w' => ∃ A' c', e = .returned (.bool true) ∧ Blk w' go 39 #[.int .i64 d, .slice A' (ps.length + 1) c'] ∧ w'.ownsRow B 90 2 (.slice A' (ps.length + 1) c') (ps.length + 1) (pcells (ps ++ [(cat, n)])) ∧
      Below B w w' ∧ (∀ g t cs, Blk w g t cs → t ≠ 90 → g ≠ go → Blk w' g t cs) := by
  obtain ⟨i0, hi0, hz0, hz1, hz2⟩ := info_parts Try.info90
  have e0 := hgf.cell 0
  have e1 := hgo.cell 0
  have e2 := hgo.cell 1
  simp at e0 e1 e2
  have HF := Lib.hid hf
  have HO := Lib.hid hown
  have hb : (cat == 0) = false := by simp; omega
  have hb2 : (n != d) = true := by simpa using hnd
  have hown' := hown.alloc (.cells #[.int .u32 cat, .int .i64 n] 90)
  have hcn := Lib.hid (pair_new w cat n)
  have ho1 := Lib.hid (pair_one cat n)
  have HOB := Lib.hid (fun b (hb : (Value.slice A ps.length c).ownBlock = some b) => own_row_blk hown hb)
  have HG := Lib.hid hgo
  clear hgf hf hnd hgo
  go_enter Try.func128, Try.ntmps128
  go_wp2_with (first
    | (go_at_fn fk; refine HF.out.mono ?_; rintro e w' ⟨rfl, rfl⟩)
    | (at_builtin; refine wpList_append_own_at _ rfl _ _ 37 rfl B 90 i0 _ 2 16 Try.underlying37 hi0 hz0 hz1 hz2 rfl (by decide) (.slice A ps.length c) _ _ rfl hown' ⟨w.heap.size, 0, none⟩ 1 1 [.int .u32 cat, .int .i64 n] rfl rfl hcn.out ho1.out (by unfold maxLen; omega) (by omega) (by simp; omega) ?_; intro v2 w2 o2 g2 _ a2; obtain ⟨A2, c2, rfl⟩ := own_slice o2; clear a2
       have kgo := (HG.out.alloc (.cells #[.int .u32 cat, .int .i64 n] 90)).grown g2 (own_ne hown' (HG.out.alloc _) (by decide)); have e3 := kgo.cell 1; have f3 := kgo.frozen 1; simp at e3))
  go_ret
  have G := only_trans (only_alloc (only_refl w (Value.slice A ps.length c).ownBlock) _) g2
  refine ⟨A2, c2, rfl, by simpa using kgo.set_ 1 _, ?_, ?_, ?_⟩
  · rw [pcells_snoc]
    exact own_set o2 kgo (by decide) _
  · exact (((Below.refl B w).alloc hB _).grown g2 (by simp; omega) (fun b hb => (HOB.out b hb).1)).setCell (p := ⟨go, 1, none⟩) hBo _
  · intro g t cs hg ht hne
    refine (hg.grown G (own_ne HO.out hg (Ne.symm ht))).far ?_ _
    exact hne

/-- Between two calls: what has been made lies in the variable go. -/
structure JM (w : World) (f : Int → Int → Int) (ga gb gf gr go : Nat) (Aa Ab : Option Addr) (ca cb : Nat) (a b : Lab) (fk : Nat) (fcaps : Array Value) (pre : List (Int × Int × Int)) (W : World) : Prop where
  mem : BothMem ga gb w.heap.size Aa Ab ca cb a b W
  bf : Blk W gf 133 #[.func (.func fk) #[] fcaps]
  br : Blk W gr 39 #[.int .i64 0, .slice none 0 0]
  out : ∃ A c, Blk W go 39 #[.int .i64 (outL f pre).d, .slice A (outL f pre).ps.length c] ∧ W.ownsRow w.heap.size 90 2 (.slice A (outL f pre).ps.length c) (outL f pre).ps.length (pcells (outL f pre).ps)
  bl : Below w.heap.size w W

theorem outL_snoc (f : Int → Int → Int) (p : Int × Int × Int) (t : List (Int × Int × Int)) (c x y : Int) : outL f (p :: t ++ [(c, x, y)]) = if f x y = (outL f (p :: t)).d then outL f (p :: t) else ⟨(outL f (p :: t)).d, (outL f (p :: t)).ps ++ [(c, f x y)]⟩ := by
  split
  · rename_i h
    simp only [outL, List.cons_append, List.map_append, List.filter_append] at h ⊢
    simp [h]
  · rename_i h
    simp only [outL, List.cons_append, List.map_append, List.filter_append] at h ⊢
    simp [h]
theorem outL_length (f : Int → Int → Int) (pre : List (Int × Int × Int)) : (outL f pre).ps.length ≤ pre.length := by
  cases pre with
  | nil => simp [outL]
  | cons p t =>
    simp only [outL]
    refine Nat.le_trans (List.length_filter_le _ _) ?_
    simp

theorem bothL_length (a b : Lab) : (bothL a b).length ≤ a.ps.length + b.ps.length + 1 := by
  have := bothP_length a.d b.d _ a.ps b.ps (Nat.le_refl _)
  simp [bothL]; omega
theorem bothL_pre {a b : Lab} (ha : Good a) (hb : Good b) {pre : List (Int × Int × Int)} {c x y : Int} (h : pre ++ [(c, x, y)] <+: bothL a b) : (pre = [] ∧ c = 0) ∨ (∃ p t, pre = p :: t ∧ 0 < c) := by
  cases pre with
  | nil =>
    obtain ⟨r, hr⟩ := h
    simp [bothL] at hr
    exact .inl ⟨rfl, hr.1.1⟩
  | cons p t =>
    refine .inr ⟨p, t, rfl, ?_⟩
    obtain ⟨r, hr⟩ := h
    simp only [bothL, List.cons_append, List.cons.injEq] at hr
    have hin : (c, x, y) ∈ bothP a.d b.d a.ps b.ps := by rw [← hr.2]; simp
    exact (bothP_rise a.d b.d _ a.ps b.ps 0 (Nat.le_refl _) ha.rise hb.rise).lt _ hin

section
variable {w : World} {f : Int → Int → Int} {ga gb gf gr go : Nat} {Aa Ab : Option Addr} {ca cb : Nat} {a b : Lab} {fk : Nat} {fcaps : Array Value}
theorem JM.drewN {pre : List (Int × Int × Int)} {W : World} (h : JM w f ga gb gf gr go Aa Ab ca cb a b fk fcaps pre W) (n : Nat) : JM w f ga gb gf gr go Aa Ab ca cb a b fk fcaps pre (W.drewN n) :=
  ⟨h.mem, h.bf, h.br, h.out, below_drewN h.bl n⟩
/-- One more: all but the variable go and the row is as it was. -/
theorem JM.next {pre pre' : List (Int × Int × Int)} {W W' : World} (h : JM w f ga gb gf gr go Aa Ab ca cb a b fk fcaps pre W) (hne : ga ≠ go ∧ gb ≠ go ∧ gf ≠ go ∧ gr ≠ go)
    (hk : ∀ g t cs, Blk W g t cs → t ≠ 90 → g ≠ go → Blk W' g t cs) (hb : Below w.heap.size W W')
    (ho : ∃ A c, Blk W' go 39 #[.int .i64 (outL f pre').d, .slice A (outL f pre').ps.length c] ∧ W'.ownsRow w.heap.size 90 2 (.slice A (outL f pre').ps.length c) (outL f pre').ps.length (pcells (outL f pre').ps)) :
    JM w f ga gb gf gr go Aa Ab ca cb a b fk fcaps pre' W' := by
  obtain ⟨m1, m2, m3, m4⟩ := h.mem
  exact ⟨⟨hk _ _ _ m1 (by decide) hne.1, hk _ _ _ m2 (by decide) hne.2.1, m3.below hb, m4.below hb⟩, hk _ _ _ h.bf (by decide) hne.2.2.1, hk _ _ _ h.br (by decide) hne.2.2.2, ho, h.bl.trans hb⟩

theorem merge_yields (egf : ∀ args w, (callFunc fk args).run Try.prog w = .ok (.enter fk args) w) (ha : Good a) (hb : Good b) (hl : a.ps.length + b.ps.length ≤ 100000)
    (hf : ∀ x y W, Below w.heap.size w W → Calls Try.prog fk (#[.int .i64 x, .int .i64 y] ++ fcaps) W fun e w' => e = .returned (.int .i64 (f x y)) ∧ W = w')
    (hne : ga ≠ go ∧ gb ≠ go ∧ gf ≠ go ∧ gr ≠ go) (hgo : w.heap.size ≤ go) :
    BothYields 128 #[.pointer (some ⟨gf, 0, none⟩), .pointer (some ⟨go, 0, none⟩)] a b (JM w f ga gb gf gr go Aa Ab ca cb a b fk fcaps) (fun _ _ => False) := by
  intro pre c x y W hj hpre
  have hlen : pre.length ≤ 100000 := by
    have h1 := hpre.length_le
    have h2 := bothL_length a b
    simp at h1; omega
  obtain ⟨A, cc, ho1, ho2⟩ := hj.out
  rcases bothL_pre ha hb hpre with ⟨rfl, rfl⟩ | ⟨p, t, rfl, hc⟩
  · refine (merge1_zero fk fcaps egf gf go x y (f x y) A _ cc _ W (hf x y W hj.bl) hj.bf ho1).mono ?_
    rintro e w' ⟨rfl, rfl⟩
    refine .inl ⟨rfl, hj.next hne (fun g t cs hg _ hn => hg.far hn _) ((Below.refl _ W).setCell (p := ⟨go, 0, none⟩) hgo _) ⟨A, cc, ?_, ?_⟩⟩
    · exact ho1.set_ 0 (.int .i64 (f x y))
    · exact own_set ho2 ho1 (by decide) _
  · by_cases hd : f x y = (outL f (p :: t)).d
    · have hff := hf x y W hj.bl
      rw [hd] at hff
      refine (merge1_skip fk fcaps egf gf go c x y (outL f (p :: t)).d A _ cc W hc hff hj.bf ho1).mono ?_
      rintro e w' ⟨rfl, rfl⟩
      have e1 := outL_snoc f p t c x y
      rw [if_pos hd] at e1
      refine .inl ⟨rfl, hj.next hne (fun g t cs hg _ hn => hg) (Below.refl _ W) ⟨A, cc, ?_, ?_⟩⟩
      · rw [e1]; exact ho1
      · rw [e1]; exact ho2
    · have hlo := outL_length f (p :: t)
      refine (merge1_put fk fcaps egf gf go w.heap.size c x y (outL f (p :: t)).d (f x y) A cc (outL f (p :: t)).ps W hc hd (by omega) (hf x y W hj.bl) hj.bf ho1 ho2 hj.bl.size hgo).mono ?_
      rintro e w' ⟨A', c', rfl, h1, h2, h3, h4⟩
      have e1 := outL_snoc f p t c x y
      rw [if_neg hd] at e1
      have e2 : ((outL f (p :: t)).ps ++ [(c, f x y)]).length = (outL f (p :: t)).ps.length + 1 := by simp
      refine .inl ⟨rfl, hj.next hne h4 h3 ⟨A', c', ?_, ?_⟩⟩
      · rw [e1]; simp only [e2]; exact h1
      · rw [e1]; simp only [e2]; exact h2
end

theorem both_make (Aa Ab : Option Addr) (na nb ca cb : Nat) (da db : Int) (w : World) :
    Calls Try.prog 126 #[.agg #[.int .i64 da, .slice Aa na ca], .agg #[.int .i64 db, .slice Ab nb cb]] w fun e w' => e = .returned (.func (.func 132) #[] #[.pointer (some ⟨w.heap.size, 0, none⟩), .pointer (some ⟨w.heap.size + 1, 0, none⟩)]) ∧
      w' = (w.alloc (.cells #[.int .i64 da, .slice Aa na ca] 39)).alloc (.cells #[.int .i64 db, .slice Ab nb cb] 39) := by
  go_enter Try.func126, Try.ntmps126
  go_wp2
  go_ret
  exact ⟨by simp, rfl⟩

theorem jm_start (w : World) (f : Int → Int → Int) (Aa Ab : Option Addr) (ca cb : Nat) (a b : Lab) (fk : Nat) (fcaps : Array Value) (pa : PairsAt w w.heap.size Aa a.ps) (pb : PairsAt w w.heap.size Ab b.ps) :
    JM w f (w.heap.size + 1 + 1 + 1 + 1 + 1) (w.heap.size + 1 + 1 + 1 + 1 + 1 + 1) (w.heap.size + 1 + 1) (w.heap.size + 1 + 1 + 1) (w.heap.size + 1 + 1 + 1 + 1) Aa Ab ca cb a b fk fcaps []
      (((((((w.alloc (.cells #[.int .i64 a.d, .slice Aa a.ps.length ca] 39)).alloc (.cells #[.int .i64 b.d, .slice Ab b.ps.length cb] 39)).alloc (.cells #[.func (.func fk) #[] fcaps] 133)).alloc (.cells #[.int .i64 0, .slice none 0 0] 39)).alloc
        (.cells #[.int .i64 0, .slice none 0 0] 39)).alloc (.cells #[.int .i64 a.d, .slice Aa a.ps.length ca] 39)).alloc (.cells #[.int .i64 b.d, .slice Ab b.ps.length cb] 39)) := by
  have b0 := Below.refl w.heap.size w
  have b2 := (b0.alloc b0.size (.cells #[.int .i64 a.d, .slice Aa a.ps.length ca] 39)).alloc (by simp) (.cells #[.int .i64 b.d, .slice Ab b.ps.length cb] 39)
  have s2 : ((w.alloc (.cells #[.int .i64 a.d, .slice Aa a.ps.length ca] 39)).alloc (.cells #[.int .i64 b.d, .slice Ab b.ps.length cb] 39)).heap.size = w.heap.size + 1 + 1 := by simp
  generalize (w.alloc (.cells #[.int .i64 a.d, .slice Aa a.ps.length ca] 39)).alloc (.cells #[.int .i64 b.d, .slice Ab b.ps.length cb] 39) = w2 at *
  have k2 := Blk.new w2 133 #[.func (.func fk) #[] fcaps]
  have b3 := b2.alloc b2.size (.cells #[.func (.func fk) #[] fcaps] 133)
  have s3 : (w2.alloc (.cells #[.func (.func fk) #[] fcaps] 133)).heap.size = w.heap.size + 1 + 1 + 1 := by simp [s2]
  rw [s2] at k2
  generalize w2.alloc (.cells #[.func (.func fk) #[] fcaps] 133) = w3 at *
  have k3 := Blk.new w3 39 #[.int .i64 0, .slice none 0 0]
  have b4 := b3.alloc b3.size (.cells #[.int .i64 0, .slice none 0 0] 39)
  have s4 : (w3.alloc (.cells #[.int .i64 0, .slice none 0 0] 39)).heap.size = w.heap.size + 1 + 1 + 1 + 1 := by simp [s3]
  have j2 := k2.alloc (.cells #[.int .i64 0, .slice none 0 0] 39)
  rw [s3] at k3
  generalize w3.alloc (.cells #[.int .i64 0, .slice none 0 0] 39) = w4 at *
  have k4 := Blk.new w4 39 #[.int .i64 0, .slice none 0 0]
  have b5 := b4.alloc b4.size (.cells #[.int .i64 0, .slice none 0 0] 39)
  have s5 : (w4.alloc (.cells #[.int .i64 0, .slice none 0 0] 39)).heap.size = w.heap.size + 1 + 1 + 1 + 1 + 1 := by simp [s4]
  have i2 := j2.alloc (.cells #[.int .i64 0, .slice none 0 0] 39)
  have i3 := k3.alloc (.cells #[.int .i64 0, .slice none 0 0] 39)
  rw [s4] at k4
  generalize w4.alloc (.cells #[.int .i64 0, .slice none 0 0] 39) = w5 at *
  have k5 := Blk.new w5 39 #[.int .i64 a.d, .slice Aa a.ps.length ca]
  have b6 := b5.alloc b5.size (.cells #[.int .i64 a.d, .slice Aa a.ps.length ca] 39)
  have s6 : (w5.alloc (.cells #[.int .i64 a.d, .slice Aa a.ps.length ca] 39)).heap.size = w.heap.size + 1 + 1 + 1 + 1 + 1 + 1 := by simp [s5]
  have h2 := i2.alloc (.cells #[.int .i64 a.d, .slice Aa a.ps.length ca] 39)
  have h3 := i3.alloc (.cells #[.int .i64 a.d, .slice Aa a.ps.length ca] 39)
  have h4 := k4.alloc (.cells #[.int .i64 a.d, .slice Aa a.ps.length ca] 39)
  rw [s5] at k5
  generalize w5.alloc (.cells #[.int .i64 a.d, .slice Aa a.ps.length ca] 39) = w6 at *
  have k6 := Blk.new w6 39 #[.int .i64 b.d, .slice Ab b.ps.length cb]
  have b7 := b6.alloc b6.size (.cells #[.int .i64 b.d, .slice Ab b.ps.length cb] 39)
  rw [s6] at k6
  exact ⟨⟨k5.alloc _, k6, pa.below b7, pb.below b7⟩, h2.alloc _, h3.alloc _, ⟨none, 0, h4.alloc _, World.ownsRow_nil _ _ _ _⟩, b7⟩

theorem enters128 : ∀ args w, (callFunc 128 args).run Try.prog w = .ok (.enter 128 args) w := enters_of Try.func128 (by kernel_rfl) rfl

set_option maxRecDepth 100000 in
set_option maxHeartbeats 800000 in
theorem merge_any (fk : Nat) (fcaps : Array Value) (egf : ∀ args w, (callFunc fk args).run Try.prog w = .ok (.enter fk args) w) (f : Int → Int → Int) (va vb : Value) (a b : Lab) (w : World)
    (ha : LabV w w.heap.size va a) (hb : LabV w w.heap.size vb b) (hga : Good a) (hgb : Good b) (hl : a.ps.length + b.ps.length ≤ 100000)
    (hf : ∀ x y W, Below w.heap.size w W → Calls Try.prog fk (#[.int .i64 x, .int .i64 y] ++ fcaps) W fun e w' => e = .returned (.int .i64 (f x y)) ∧ W = w') :
    Calls Try.prog 108 #[va, vb, .func (.func fk) #[] fcaps] w fun e w' => ∃ v, e = .returned v ∧ LabV w' w'.heap.size v (mergeL f a b) ∧ Below w.heap.size w w' := by
  obtain ⟨Aa, ca, rfl, pa, la⟩ := ha
  obtain ⟨Ab, cb, rfl, pb, lb⟩ := hb
  have HF := Lib.hid hf
  clear hf la lb
  have HS := Lib.hid (jm_start w f Aa Ab ca cb a b fk fcaps pa pb)
  clear pa pb
  go_enter Try.func108, Try.ntmps108
  go_wp2_with (go_at_call 126; refine (both_make _ _ _ _ _ _ _ _ _).mono ?_; rintro e w' ⟨rfl, rfl⟩)
  refine (both_any 128 _ enters128 _ _ w.heap.size Aa Ab ca cb a b (JM w f _ _ (w.heap.size + 1 + 1) (w.heap.size + 1 + 1 + 1) (w.heap.size + 1 + 1 + 1 + 1) Aa Ab ca cb a b fk fcaps) (fun _ _ => False) (fun _ _ h => h.mem) (fun _ _ n h => h.drewN n)
    (merge_yields egf hga hgb hl HF.out (by omega) (by omega)) (by omega) (by omega) _ HS.out).mono ?_
  rintro e W ⟨rfl, hB⟩
  rcases hB with hJ | ⟨_, _, h⟩
  case inr => exact h.elim
  obtain ⟨A, c, k1, o1⟩ := hJ.out
  have k2 := hJ.br
  have HB := Lib.hid hJ.bl
  clear hJ HS HF
  rw [outL_all] at k1 o1
  have HO := Lib.hid o1
  clear o1
  have e0 := k1.cell 0
  have e1 := k1.cell 1
  have e2 := k2.cell 0
  have e3 := k2.cell 1
  have f2 := k2.frozen 0
  have f3 := k2.frozen 1
  simp at e0 e1 e2 e3
  have K := (k2.set_ 0 (.int .i64 (mergeL f a b).d)).set_ 1 (.slice A (mergeL f a b).ps.length c)
  have K' : Blk ((W.setCell ⟨w.heap.size + 1 + 1 + 1, 0, none⟩ (.int .i64 (mergeL f a b).d)).setCell ⟨w.heap.size + 1 + 1 + 1, 1, none⟩ (.slice A (mergeL f a b).ps.length c)) (w.heap.size + 1 + 1 + 1) 39 #[.int .i64 (mergeL f a b).d, .slice A (mergeL f a b).ps.length c] := K
  have HK := Lib.hid K'
  have HO2 := Lib.hid (own_set (own_set HO.out k2 (by decide) (i := 0) (.int .i64 (mergeL f a b).d)) (k2.set_ 0 (.int .i64 (mergeL f a b).d)) (by decide) (i := 1) (.slice A (mergeL f a b).ps.length c))
  have HB2 := Lib.hid ((HB.out.setCell (p := ⟨w.heap.size + 1 + 1 + 1, 0, none⟩) (by show _ ≤ w.heap.size + 1 + 1 + 1; omega) (.int .i64 (mergeL f a b).d)).setCell (p := ⟨w.heap.size + 1 + 1 + 1, 1, none⟩) (by show _ ≤ w.heap.size + 1 + 1 + 1; omega) (.slice A (mergeL f a b).ps.length c))
  clear K K' k1 k2
  go_wp2
  refine bodyPost_ret (results_cell_row rfl _ _ (w.heap.size + 1 + 1 + 1) 39 #[.int .i64 (mergeL f a b).d, .slice A (mergeL f a b).ps.length c] (0, 0) _ (by rfl) HK.out Try.underlying39 rfl (by kernel_rfl)) rfl ?_
  exact ⟨_, rfl, ⟨A, c, rfl, own_pairs HO2.out, own_cap HO2.out⟩, HB2.out⟩

end Go.Proofs.Ytihddficgpjgpaa
