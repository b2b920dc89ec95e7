/- MLeq: Leqs, Leq, Owns, Fit2, one behind the other. -/
import Derived.Test.YtihddficgpjgpaaZMTop
import Derived.RangeFuncNested
import Derived.RangeFuncFrom
import Derived.RangeFuncBound
import Derived.RangeFuncCalls
import Derived.RangeFuncLeaves
import Derived.Shelf.Abstract
import Derived.Shelf.RegionOpen
import Derived.OwnWalkIn
import Derived.TacticsInMore
import Derived.LoopNIn
import Derived.LoopIn
import Derived.Test.YtihddficgpjgpaaZRight
import Derived.Test.YtihddficgpjgpaaZMLab
namespace Go.Proofs.Ytihddficgpjgpaa
open Go.RowKit Go.ChangeShapes Go.WideShapes Go.Shelf
attribute [local go_sem] Oper.semAt_some
theorem pairs_make (Aa Ab : Option Addr) (na nb ca cb : Nat) (da db : Int) (w : World) :
    Calls Try.prog 107 #[.agg #[.int .i64 da, .slice Aa na ca], .agg #[.int .i64 db, .slice Ab nb cb]] w fun e w' => e = .returned (.func (.func 125) #[] #[.pointer (some ⟨w.heap.size, 0, none⟩), .pointer (some ⟨w.heap.size + 1, 0, none⟩)]) ∧
      w' = (w.alloc (.cells #[.int .i64 da, .slice Aa na ca] 39)).alloc (.cells #[.int .i64 db, .slice Ab nb cb] 39) := by
  go_enter Try.func107, Try.ntmps107
  go_wp2
  go_ret
  exact ⟨by simp, rfl⟩
theorem room_of_none {F : Fence} (hd : F.depth = none) (k : Nat) : F.room k := fun d h => by rw [hd] at h; cases h
theorem RoundIn.anyDepth {F : Fence} (hd : F.depth = none) {m m' : Nat} {P : Program} {l : Nat} {f : FuncId} {tmps : Array Value} {assign body : Code} {w : World} {R : Ending → World → Prop}
    (h : RoundIn F m P l f tmps assign body w R) : RoundIn F m' P l f tmps assign body w R := ⟨h.1, fun c cs _ => h.2 c cs (room_of_none hd _)⟩
theorem YieldAt.anyDepth {F : Fence} (hd : F.depth = none) {m : Nat} (m' : Nat) {P : Program} {l : Nat} {args : Array Value} {W : World} {R : Ending → World → Prop} (h : YieldAt F m P l args W R) : YieldAt F m' P l args W R := by
  obtain ⟨fn, tmps, assign, body, hy, hR⟩ := h
  exact ⟨fn, tmps, assign, body, hy, RoundIn.anyDepth hd hR⟩
def encs2 (x : Int × Bool) : Array Value := #[.int .u32 x.1, .bool x.2]
/-- What is asked of each round: goes on, or has said that it is enough. -/
def RoundEnd (Q Qx : World → Prop) (e : Ending) (w' : World) : Prop := (e = .returned (.bool true) ∧ Q w') ∨ (e = .returned (.bool false) ∧ Qx w')
theorem pairs11_any (l gy : Nat) (c x y : Int) (v : Bool) (hv : decide (x ≤ y) = v) (w : World) (Q Qx : World → Prop) (hb : Blk w gy 149 #[.func (.yield l) #[] #[]]) (m : Nat)
    (hY : YieldAt Fence.wide m Try.prog l #[.int .u32 c, .bool v] w (RoundEnd Q Qx)) :
    Calls Try.prog 127 #[.int .u32 c, .int .i64 x, .int .i64 y, .pointer (some ⟨gy, 0, none⟩)] w (RoundEnd Q Qx) := by
  refine (callsIn_wide (n := 5)).1 ?_
  refine callsIn_of_wp Try.func127 rfl trivial ?_ rfl
  simp only [Try.ntmps127, List.size_toArray, List.length_cons, List.length_nil, Nat.reduceAdd, Nat.reduceSub, Array.replicate_succ, Array.replicate_zero, List.push_toArray, List.append_toArray, List.nil_append, List.cons_append]
  have e0 := hb.cell 0
  simp at e0
  clear hb
  obtain ⟨fn, tmps, assign, body, hy, hR⟩ := YieldAt.anyDepth rfl 4 hY
  gi_wp2
  refine hR.mono ?_
  rintro e W' (⟨rfl, h⟩ | ⟨rfl, h⟩)
  · gi_wp2
    go_ret
    exact .inl ⟨rfl, h⟩
  · gi_wp2
    go_ret
    exact .inr ⟨rfl, h⟩
/-- Each block of cells is as it was. -/
def KeptC (W W' : World) : Prop := ∀ (g : Nat) (cs : Array Value) (t : TypeId) (fr : Nat × Nat), W.heap[g]? = some (.cells cs t fr) → W'.heap[g]? = some (.cells cs t fr)
theorem KeptC.refl (W : World) : KeptC W W := fun _ _ _ _ h => h
theorem KeptC.trans {A B C : World} (h : KeptC A B) (k : KeptC B C) : KeptC A C := fun g cs t fr e => k g cs t fr (h g cs t fr e)
theorem KeptC.blk {W W' : World} (h : KeptC W W') {g : Nat} {t : TypeId} {cs : Array Value} (hb : Blk W g t cs) : Blk W' g t cs := h g cs t (0, 0) hb
theorem KeptC.cell {W W' : World} (h : KeptC W W') {p : Addr} {v : Value} (hc : W.cell? p = some v) : W'.cell? p = some v := by
  have hh : ∃ cs t fr, W.heap[p.block]? = some (.cells cs t fr) := by
    unfold World.cell? at hc
    split at hc
    · exact ⟨_, _, _, by assumption⟩
    · cases hc
  obtain ⟨cs, t, fr, hb⟩ := hh
  exact (World.cell?_of_block ((h _ _ _ _ hb).trans hb.symm)).trans hc
theorem KeptC.pairs {W W' : World} (h : KeptC W W') {B : Nat} {A : Option Addr} {l : List (Int × Int)} (hp : PairsAt W B A l) : PairsAt W' B A l := fun hl => by
  obtain ⟨b, off, e, hb, hc⟩ := hp hl
  exact ⟨b, off, e, hb, fun k hk => ⟨h.cell (hc k hk).1, h.cell (hc k hk).2⟩⟩
theorem keptC_b {w : World} (W : World) (l : Nat) (o o' : Obj) (_ : w.heap.size ≤ l) (h : W.heap[l]? = some o) (hc : o.isCells = false) (_ : o.isWalk = false) : KeptC W (W.putObj l o') := fun g cs t fr e => by
  by_cases hg : g = l
  · subst hg
    rw [h] at e
    cases e
    cases hc
  · rw [World.putObj_heap_other (fun e => hg e)]
    exact e
/-- What going over the levels tells. -/
def leqL (a b : Lab) : List (Int × Bool) := (bothL a b).map fun t => (t.1, decide (t.2.1 ≤ t.2.2))
def lq (t : Int × Int × Int) : Int × Bool := (t.1, decide (t.2.1 ≤ t.2.2))
theorem enters127 : ∀ args w, (callFunc 127 args).run Try.prog w = .ok (.enter 127 args) w := enters_of Try.func127 (by kernel_rfl) rfl
theorem enters125 : ∀ args w, (callFunc 125 args).run Try.prog w = .ok (.enter 125 args) w := enters_of Try.func125 (by kernel_rfl) rfl
set_option maxRecDepth 100000 in
set_option maxHeartbeats 800000 in
theorem pairs1_stops (n g1 g2 : Nat) (Aa Ab : Option Addr) (ca cb : Nat) (a b : Lab) (w : World) (hla : a.ps.length ≤ 100000) (hlb : b.ps.length ≤ 100000) (h1 : Blk w g1 39 #[.int .i64 a.d, .slice Aa a.ps.length ca]) (h2 : Blk w g2 39 #[.int .i64 b.d, .slice Ab b.ps.length cb])
    (pa : PairsAt w w.heap.size Aa a.ps) (pb : PairsAt w w.heap.size Ab b.ps) :
    SeqStopsK Fence.wide n Try.prog 125 #[.pointer (some ⟨g1, 0, none⟩), .pointer (some ⟨g2, 0, none⟩)] encs2 KeptC (fun xs => xs = leqL a b) (fun pre => pre <+: leqL a b) (leqL a b).length w := fun l J Jx W hW hJ hJx hY h0 => by
  refine callsIn_wide.2 ?_
  have k1 := h1.below hW h1.lt
  have k2 := h2.below hW h2.lt
  have e10 := (k1.alloc (.cells #[.func (.yield l) #[] #[]] 149)).cell 0
  have e11 := (k1.alloc (.cells #[.func (.yield l) #[] #[]] 149)).cell 1
  have e20 := (k2.alloc (.cells #[.func (.yield l) #[] #[]] 149)).cell 0
  have e21 := (k2.alloc (.cells #[.func (.yield l) #[] #[]] 149)).cell 1
  simp at e10 e11 e20 e21
  have HJ := Lib.hid hJ
  have HY := Lib.hid hY
  have pa1 := pa.below hW
  have pb1 := pb.below hW
  have HW := Lib.hid hW.size
  clear hJ hJx hY hW h1 h2 pa pb k1 k2
  show Calls Try.prog 125 #[.func (.yield l) #[] #[], .pointer (some ⟨g1, 0, none⟩), .pointer (some ⟨g2, 0, none⟩)] W _
  go_enter Try.func125, Try.ntmps125
  go_wp2_with (go_at_call 126; refine (both_make _ _ _ _ _ _ _ _ _).mono ?_; rintro e w' ⟨rfl, rfl⟩)
  have hB := ((Below.refl W.heap.size W).alloc (Nat.le_refl _) (.cells #[.func (.yield l) #[] #[]] 149))
  have s1 : (W.alloc (.cells #[.func (.yield l) #[] #[]] 149)).heap.size = W.heap.size + 1 := by simp
  have ky := Blk.new W 149 #[.func (.yield l) #[] #[]]
  generalize W.alloc (.cells #[.func (.yield l) #[] #[]] 149) = w1 at *
  have ka := Blk.new w1 39 #[.int .i64 a.d, .slice Aa a.ps.length ca]
  have hB2 := hB.alloc hB.size (.cells #[.int .i64 a.d, .slice Aa a.ps.length ca] 39)
  have s2 : (w1.alloc (.cells #[.int .i64 a.d, .slice Aa a.ps.length ca] 39)).heap.size = W.heap.size + 1 + 1 := by simp [s1]
  have ky2 := ky.alloc (.cells #[.int .i64 a.d, .slice Aa a.ps.length ca] 39)
  rw [s1] at ka
  generalize w1.alloc (.cells #[.int .i64 a.d, .slice Aa a.ps.length ca] 39) = w2 at *
  have kb := Blk.new w2 39 #[.int .i64 b.d, .slice Ab b.ps.length cb]
  have hB3 := hB2.alloc hB2.size (.cells #[.int .i64 b.d, .slice Ab b.ps.length cb] 39)
  have ky3 := ky2.alloc (.cells #[.int .i64 b.d, .slice Ab b.ps.length cb] 39)
  have ka3 := ka.alloc (.cells #[.int .i64 b.d, .slice Ab b.ps.length cb] 39)
  rw [s2] at kb
  generalize w2.alloc (.cells #[.int .i64 b.d, .slice Ab b.ps.length cb] 39) = w3 at *
  have hJ3 : J [] w3 := HJ.out [] W w3 none h0 ⟨hB3.os, hB3.tape, hB3.output, hB3.size, fun i hi _ => hB3.block i hi⟩ (fun r e => by cases e)
  have hyy : BothYields 127 #[.pointer (some ⟨W.heap.size, 0, none⟩)] a b (fun pre V => J (pre.map lq) V ∧ KeptC w3 V) (fun pre V => Jx (pre.map lq) V) := by
    intro pre c x y V hjv hpre
    have hlen : (pre.map lq).length < (leqL a b).length := by
      have := hpre.length_le
      simp [leqL] at this ⊢
      omega
    have hr := HY.out (pre.map lq) (c, decide (x ≤ y)) V hjv.1 hlen
    refine (pairs11_any l W.heap.size c x y _ rfl V (fun W' => J (pre.map lq ++ [(c, decide (x ≤ y))]) W' ∧ KeptC V W') (fun W' => Jx (pre.map lq ++ [(c, decide (x ≤ y))]) W') (hjv.2.blk ky3) (n - 1) ?_).mono ?_
    · exact hr
    · rintro e W' (⟨rfl, h1, h2⟩ | ⟨rfl, h1⟩)
      · exact .inl ⟨rfl, by simpa [lq] using h1, hjv.2.trans h2⟩
      · exact .inr ⟨rfl, by simpa [lq] using h1⟩
  refine (both_any 127 _ enters127 _ _ w.heap.size Aa Ab ca cb a b (fun pre V => J (pre.map lq) V ∧ KeptC w3 V) (fun pre V => Jx (pre.map lq) V) ?_ ?_ hyy hla hlb _ ?_).mono ?_
  · intro pre V h
    exact ⟨h.2.blk ka3, h.2.blk kb, h.2.pairs (pa1.below (hB3.mono HW.out)), h.2.pairs (pb1.below (hB3.mono HW.out))⟩
  · intro pre V m h
    exact ⟨HJ.out _ V _ none h.1 (only_drewN (only_refl V none) m) (fun r e => by cases e), h.2⟩
  · exact ⟨hJ3, KeptC.refl _⟩
  · rintro e V ⟨rfl, hE⟩
    have HE : Hid (((∃ xs, xs = leqL a b ∧ J xs V) ∨ ∃ pre, pre <+: leqL a b ∧ Jx pre V)) := by
      rcases hE with h | ⟨pre, hp, h⟩
      · exact .inl ⟨_, rfl, h.1⟩
      · exact .inr ⟨_, hp.map lq, h⟩
    clear hE hyy
    go_wp2
    go_end0
    exact ⟨⟨_, rfl⟩, HE.out⟩
end Go.Proofs.Ytihddficgpjgpaa
namespace Go.Proofs.Ytihddficgpjgpaa
open Go.RowKit Go.ChangeShapes Go.WideShapes Go.Shelf
attribute [local go_sem] Oper.semAt_some
theorem leqL_all (a b : Lab) : (leqL a b).all (·.2) = leqB a b := by
  unfold leqL leqB
  rw [List.all_map]; rfl
set_option maxRecDepth 100000 in
set_option maxHeartbeats 1600000 in
theorem leq_any (va vb : Value) (a b : Lab) (w : World) (ha : LabV w w.heap.size va a) (hb : LabV w w.heap.size vb b) (hl : a.ps.length + b.ps.length ≤ 100000) :
    Calls Try.prog 57 #[va, vb] w fun e w' => e = .returned (.bool (leqB a b)) ∧ Below w.heap.size w w' := by
  obtain ⟨Aa, ca, rfl, pa, la⟩ := ha
  obtain ⟨Ab, cb, rfl, pb, lb⟩ := hb
  refine (callsIn_wide (n := 9)).1 ?_
  refine callsIn_of_wp_marks Try.func57 rfl trivial ?_ rfl
  simp only [Try.ntmps57, List.size_toArray, List.length_cons, List.length_nil, Nat.reduceAdd, Nat.reduceSub, Array.replicate_succ, Array.replicate_zero, List.push_toArray, List.append_toArray, List.nil_append, List.cons_append]
  gi_wp2
  refine ⟨trivial, ?_⟩
  refine (callsIn_wide.2 (pairs_make _ _ _ _ _ _ _ _ _)).mono ?_
  rintro e w' ⟨rfl, rfl⟩
  have b0 := ((Below.refl w.heap.size w).alloc (Nat.le_refl _) (.cells #[.int .i64 a.d, .slice Aa a.ps.length ca] 39)).alloc (by simp) (.cells #[.int .i64 b.d, .slice Ab b.ps.length cb] 39)
  have s0 : ((w.alloc (.cells #[.int .i64 a.d, .slice Aa a.ps.length ca] 39)).alloc (.cells #[.int .i64 b.d, .slice Ab b.ps.length cb] 39)).heap.size = w.heap.size + 1 + 1 := by simp
  generalize (w.alloc (.cells #[.int .i64 a.d, .slice Aa a.ps.length ca] 39)).alloc (.cells #[.int .i64 b.d, .slice Ab b.ps.length cb] 39) = w2 at *
  have k2 := Blk.new w2 4 #[.bool false]
  have b2 := b0.alloc b0.size (.cells #[.bool false] 4)
  have s2 : (w2.alloc (.cells #[.bool false] 4)).heap.size = w.heap.size + 1 + 1 + 1 := by simp [s0]
  rw [s0] at k2
  generalize w2.alloc (.cells #[.bool false] 4) = w3 at *
  rw [s2]
  have k3 := Blk.new w3 39 #[.int .i64 a.d, .slice Aa a.ps.length ca]
  have b3 := b2.alloc b2.size (.cells #[.int .i64 a.d, .slice Aa a.ps.length ca] 39)
  have s3 : (w3.alloc (.cells #[.int .i64 a.d, .slice Aa a.ps.length ca] 39)).heap.size = w.heap.size + 1 + 1 + 1 + 1 := by simp [s2]
  have j2 := k2.alloc (.cells #[.int .i64 a.d, .slice Aa a.ps.length ca] 39)
  rw [s2] at k3
  generalize w3.alloc (.cells #[.int .i64 a.d, .slice Aa a.ps.length ca] 39) = w4 at *
  have k4 := Blk.new w4 39 #[.int .i64 b.d, .slice Ab b.ps.length cb]
  have b4 := b3.alloc b3.size (.cells #[.int .i64 b.d, .slice Ab b.ps.length cb] 39)
  have s4 : (w4.alloc (.cells #[.int .i64 b.d, .slice Ab b.ps.length cb] 39)).heap.size = w.heap.size + 1 + 1 + 1 + 1 + 1 := by simp [s3]
  have i2 := j2.alloc (.cells #[.int .i64 b.d, .slice Ab b.ps.length cb] 39)
  have i3 := k3.alloc (.cells #[.int .i64 b.d, .slice Ab b.ps.length cb] 39)
  rw [s3] at k4
  generalize w4.alloc (.cells #[.int .i64 b.d, .slice Ab b.ps.length cb] 39) = w5 at *
  clear k2 j2 k3 b0 b2 b3
  have er := i2.cell 0
  have fr := i2.frozen 0
  simp at er
  have hsz : w.heap.size ≤ w5.heap.size := b4.size
  gi_wp2
  refine wpIn_rangeFunc_ownF (F := Fence.wide) rfl (by omega) (gf := 125) (lb := #[.pointer (some ⟨w.heap.size + 1 + 1 + 1, 0, none⟩), .pointer (some ⟨w.heap.size + 1 + 1 + 1 + 1, 0, none⟩)]) rfl trivial enters125
    (pairs1_stops _ _ _ Aa Ab ca cb a b w5 (by omega) (by omega) i3 k4 ((pa.below b4).more hsz) ((pb.below b4).more hsz)) KeptC.trans keptC_b (Below.refl _ _) (fun _ => rfl)
    (fun pre W => (pre.all (·.2) = true ∧ W.cell? ⟨w.heap.size + 1 + 1, 0, none⟩ = some (.bool false) ∧ W.frozen? ⟨w.heap.size + 1 + 1, 0, none⟩ = false) ∧ Below w.heap.size w W)
    (fun c pre W => (c = .ret ∧ pre.all (·.2) = false ∧ W.cell? ⟨w.heap.size + 1 + 1, 0, none⟩ = some (.bool false)) ∧ Below w.heap.size w W)
    (OwnFrom.and (Own.from (fun s A B row hs hg hr => ⟨hs.1, cell_kept hs.2.1 hg hr, (frozen_kept hs.2.1 hg hr).trans hs.2.2⟩) _) (ownFrom_below (Nat.le_refl _) (by omega)))
    (fun c => OwnFrom.and (Own.from (fun s A B row hs hg hr => ⟨hs.1, hs.2.1, cell_kept hs.2.2 hg hr⟩) _) (ownFrom_below (Nat.le_refl _) (by omega)))
    ⟨⟨rfl, er, fr⟩, b4⟩
    (fun x => { tmps := #[.agg #[.int .i64 a.d, .slice Aa a.ps.length ca], .agg #[.int .i64 b.d, .slice Ab b.ps.length cb], .pointer (some ⟨w.heap.size, 0, none⟩), .pointer (some ⟨w.heap.size + 1, 0, none⟩), .pointer (some ⟨w.heap.size + 1 + 1, 0, none⟩), undef, .bool x.2, .agg #[.int .i64 a.d, .slice Aa a.ps.length ca], .agg #[.int .i64 b.d, .slice Ab b.ps.length cb],
      .func (.func 125) #[] #[.pointer (some ⟨w.heap.size + 1 + 1 + 1, 0, none⟩), .pointer (some ⟨w.heap.size + 1 + 1 + 1 + 1, 0, none⟩)], .int .u32 x.1, .bool x.2, undef, undef], defers := [] }) ?assign ?body ?done ?stop
  case assign =>
    intro l x W K hK
    dsimp only [encs2]
    gi_wp2
    exact hK
  case body =>
    rintro l pre ⟨c, ok⟩ W ⟨⟨hp, hcr, hfr⟩, hB⟩ _
    cases ok with
    | true =>
      gi_wp2
      exact ⟨KeepsOthers.refl _, KeptC.refl _, ⟨by simpa using hp, hcr, hfr⟩, hB⟩
    | false =>
      gi_wp2
      exact ⟨KeepsOthers.setCell _ _ _, ⟨rfl, by simp, World.cell?_setCell_same' _ _ _ (by rw [hcr]; rfl)⟩, hB.setCell (p := ⟨w.heap.size + 1 + 1, 0, none⟩) (by show _ ≤ w.heap.size + 1 + 1; omega) _⟩
  case done =>
    rintro D ys W hD rfl ⟨⟨hp, hcr, hfr⟩, hB⟩ hK
    gi_wp2
    have hK' := (KeepsOthers.setCell W ⟨w.heap.size + 1 + 1, 0, none⟩ (.bool true)).same D _ hK rfl
    refine ⟨by simp, .inl ⟨_, _, rfl, run_takeDeferred hK', ?_⟩⟩
    have hc5 := cell_kept (World.cell?_setCell_same' W ⟨w.heap.size + 1 + 1, 0, none⟩ (.bool true) (by rw [hcr]; rfl)) (grownBy_putObj' _ D (.deferred none)) (fun r e => by cases e; exact ⟨_, hK', rfl⟩)
    refine ⟨.bool true, ?_, ret_bool (by rw [← hp]; exact leqL_all a b), (hB.setCell (p := ⟨w.heap.size + 1 + 1, 0, none⟩) (by show _ ≤ w.heap.size + 1 + 1; omega) _).trans (belowK_b (w := w) (Nat.le_refl _) _ D _ _ (by omega) hK' rfl rfl)⟩
    simp [results, Try.f57, go_sem, hc5]
  case stop =>
    rintro D c pre W hD hpre ⟨⟨rfl, hin, hcr⟩, hB⟩ hK
    gi_wp2
    refine ⟨by simp, .inl ⟨_, _, rfl, run_takeDeferred hK, ?_⟩⟩
    have hc5 := cell_kept hcr (grownBy_putObj' _ D (.deferred none)) (fun r e => by cases e; exact ⟨_, hK, rfl⟩)
    refine ⟨.bool false, ?_, ret_bool ?_, hB.trans (belowK_b (w := w) (Nat.le_refl _) W D _ _ (by omega) hK rfl rfl)⟩
    · simp [results, Try.f57, go_sem, hc5]
    · rw [← leqL_all]
      obtain ⟨r, hr⟩ := hpre
      rw [← hr, List.all_append, hin]; rfl
end Go.Proofs.Ytihddficgpjgpaa
namespace Go.Proofs.Ytihddficgpjgpaa
open Go.RowKit Go.ChangeShapes Go.WideShapes Go.Shelf
theorem Try.info70 : (Try.prog.info? 70).map (fun i => (i.zero, i.size, i.bytes)) = some (some (.int .u32 0), 1, 4) := by kernel_rfl
def u32s (l : List Int) : List Value := l.map (Value.int .u32)
def ownsP (ps : List (Int × Int)) : List Int := (ps.filter fun p => decide (p.2 = 0)).map (·.1)
theorem ownsP_snoc (ps : List (Int × Int)) (p : Int × Int) : ownsP (ps ++ [p]) = if p.2 = 0 then ownsP ps ++ [p.1] else ownsP ps := by
  unfold ownsP
  rw [List.filter_append]
  split <;> rename_i h <;> simp [h]
theorem ownsP_length (ps : List (Int × Int)) : (ownsP ps).length ≤ ps.length := by
  unfold ownsP
  rw [List.length_map]
  exact List.length_filter_le _ _
def ROwn (w : World) (B : Nat) (A : Option Addr) (ps : List (Int × Int)) (vo vi : Value) (wr : World) : Prop :=
  ∃ k : Nat, k ≤ ps.length ∧ vi = .int .i64 k ∧ wr.ownsRow w.heap.size 70 1 vo (ownsP (ps.take k)).length (u32s (ownsP (ps.take k))) ∧ PairsAt wr B A ps ∧ Below w.heap.size w wr
set_option maxRecDepth 100000 in
set_option maxHeartbeats 800000 in
theorem owns_any (va : Value) (a : Lab) (w : World) (ha : LabV w w.heap.size va a) (hl : a.ps.length ≤ 1000000) :
    Calls Try.prog 56 #[va] w fun e w' => ∃ v, e = .returned v ∧ w'.ownsRow w.heap.size 70 1 v (ownsL a).length (u32s (ownsL a)) ∧ Below w.heap.size w w' := by
  obtain ⟨i0, hi0, hz0, hz1, hz2⟩ := info_parts Try.info70
  obtain ⟨Aa, ca, rfl, pa, la⟩ := ha
  have b0 := (Below.refl w.heap.size w).alloc (Nat.le_refl _) (.cells #[.int .i64 a.d, .slice Aa a.ps.length ca] 39)
  have r0 : ROwn w w.heap.size Aa a.ps (.slice none 0 0) (.int .i64 0) (w.alloc (.cells #[.int .i64 a.d, .slice Aa a.ps.length ca] 39)) := ⟨0, Nat.zero_le _, rfl, World.ownsRow_nil _ _ _ _, pa.below b0, b0⟩
  clear pa b0
  go_enter Try.func56, Try.ntmps56
  go_wp2_with fail
  generalize w.alloc (.cells #[.int .i64 a.d, .slice Aa a.ps.length ca] 39) = w1 at *
  go_loopw [3, 9] (fun vo vi wr => ROwn w w.heap.size Aa a.ps vo vi wr) (fun _ vi _ => a.ps.length - (intOf vi).toNat)
  case atStart => exact r0
  case round =>
    clear r0
    obtain ⟨k, hk, rfl, ho, pk, bk⟩ := hrel
    have hol : (ownsP (a.ps.take k)).length ≤ 1000000 := Nat.le_trans (ownsP_length _) (by simp; omega)
    by_cases hlt : k < a.ps.length
    · have hsz := bk.size
      obtain ⟨b, off, rfl, hb, hc⟩ := pk (by omega)
      obtain ⟨c0, c1⟩ := hc k hlt
      have hs := ownsP_snoc (a.ps.take k) a.ps[k]
      rw [← List.take_succ_eq_append_getElem hlt] at hs
      generalize a.ps[k] = pr at *
      obtain ⟨cat, lev⟩ := pr
      simp only at c0 c1 hs
      have pk1 := pk.alloc (by omega) (.cells #[.int .u32 cat, .int .i64 lev] 90)
      have bk1 := bk.alloc bk.size (.cells #[.int .u32 cat, .int .i64 lev] 90)
      have ho1 := ho.alloc (.cells #[.int .u32 cat, .int .i64 lev] 90)
      have PK := Lib.hid pk1
      have BK := Lib.hid bk1
      have HO := Lib.hid ho1
      have HL := Lib.hid hol
      clear hc pk pk1 bk bk1 ho hol
      by_cases hz : lev = 0
      · rw [if_pos hz] at hs
        have HS := Lib.hid hs
        subst hz
        clear hs
        have ho2 := ho1.alloc (.cells #[.int .u32 cat] 70)
        have hcn := Lib.hid (cell_one_new (wr.alloc (.cells #[.int .u32 cat, .int .i64 0] 90)) (.int .u32 cat) 70)
        rw [World.size_alloc] at hcn
        go_wp2_with (at_builtin; refine wpList_append_own_at _ rfl _ _ 75 rfl w.heap.size 70 i0 _ 1 4 Try.underlying75 hi0 hz0 hz1 hz2 rfl (by decide) u3 _ _ rfl ho2 ⟨wr.heap.size + 1, 0, none⟩ 1 1 [.int .u32 cat] rfl rfl hcn.out (by intro u hu; simp at hu; subst hu; rfl) (by unfold maxLen; have := HL.out; omega) (by have := HL.out; omega) (by simp; omega) ?_; intro v2 w2 o2 g2 _ _)
        go_roundw
        case rel =>
          refine ⟨k + 1, by omega, by go_num, ?_, (PK.out.alloc (by simp; omega) _).keep (fun p hp => World.cell?_of_block (g2.block p.block (by simp; omega) ?_)), (BK.out.alloc BK.out.size _).grown g2 (by simp; omega) (fun b hb => own_base ho2 hb)⟩
          · rw [HS.out]
            have e : (ownsP (a.ps.take k) ++ [cat]).length = (ownsP (a.ps.take k)).length + 1 := by simp
            rw [e]; simpa [u32s] using o2
          · intro e
            have := own_base ho2 e.symm
            omega
        case measure => simp [intOf]; omega
      · rw [if_neg hz] at hs
        have HS := Lib.hid hs
        have hzb : (lev == 0) = false := by simpa using hz
        clear hs hz ho1
        go_wp2_with fail
        go_roundw
        case rel => exact ⟨k + 1, by omega, by go_num, by rw [HS.out]; exact HO.out, PK.out, BK.out⟩
        case measure => simp [intOf]; omega
    · obtain rfl : k = a.ps.length := by omega
      have hE : Hid (ownsP (a.ps.take a.ps.length) = ownsL a) := by show _ = _; rw [List.take_length]; rfl
      have HO := Lib.hid ho
      have BK := Lib.hid bk
      clear hk hlt ho pk bk hol
      go_wp2_with fail
      go_ret
      exact ⟨_, rfl, by rw [← hE.out]; exact HO.out, BK.out⟩
def ROwn2 (w : World) (B : Nat) (A : Option Addr) (ca : Nat) (a : Lab) (vo vi : Value) (wr : World) : Prop :=
  ∃ k : Nat, k ≤ a.ps.length ∧ vi = .int .i64 k ∧ wr.ownsRow w.heap.size 70 1 vo (ownsP (a.ps.take k)).length (u32s (ownsP (a.ps.take k))) ∧ Blk wr w.heap.size 39 #[.int .i64 a.d, .slice A a.ps.length ca] ∧ PairsAt wr B A a.ps ∧ Below w.heap.size w wr
set_option maxRecDepth 100000 in
set_option maxHeartbeats 800000 in
theorem rowns_any (va : Value) (a : Lab) (w : World) (ha : LabV w w.heap.size va a) (hl : a.ps.length ≤ 1000000) :
    Calls Try.prog 80 #[va] w fun e w' => ∃ v, e = .returned v ∧ w'.ownsRow w.heap.size 70 1 v (ownsL a).length (u32s (ownsL a)) ∧ Below w.heap.size w w' := by
  obtain ⟨i0, hi0, hz0, hz1, hz2⟩ := info_parts Try.info70
  obtain ⟨Aa, ca, rfl, pa, la⟩ := ha
  have b0 := (Below.refl w.heap.size w).alloc (Nat.le_refl _) (.cells #[.int .i64 a.d, .slice Aa a.ps.length ca] 39)
  have r0 : ROwn2 w w.heap.size Aa ca a (.slice none 0 0) (.int .i64 0) (w.alloc (.cells #[.int .i64 a.d, .slice Aa a.ps.length ca] 39)) := ⟨0, Nat.zero_le _, rfl, World.ownsRow_nil _ _ _ _, Blk.new w 39 _, pa.below b0, b0⟩
  clear pa b0
  go_enter Try.func80, Try.ntmps80
  go_wp2_with fail
  generalize w.alloc (.cells #[.int .i64 a.d, .slice Aa a.ps.length ca] 39) = w1 at *
  go_loopw [3, 4] (fun vo vi wr => ROwn2 w w.heap.size Aa ca a vo vi wr) (fun _ vi _ => a.ps.length - (intOf vi).toNat)
  case atStart => exact r0
  case round =>
    clear r0
    obtain ⟨k, hk, rfl, ho, kb, pk, bk⟩ := hrel
    have eb := kb.cell 1
    simp at eb
    have KB := Lib.hid kb
    clear kb
    have hol : (ownsP (a.ps.take k)).length ≤ 1000000 := Nat.le_trans (ownsP_length _) (by simp; omega)
    by_cases hlt : k < a.ps.length
    · have hsz := bk.size
      obtain ⟨b, off, rfl, hb, hc⟩ := pk (by omega)
      obtain ⟨c0, c1⟩ := hc k hlt
      have hs := ownsP_snoc (a.ps.take k) a.ps[k]
      rw [← List.take_succ_eq_append_getElem hlt] at hs
      generalize a.ps[k] = pr at *
      obtain ⟨cat, lev⟩ := pr
      simp only at c0 c1 hs
      have PK := Lib.hid pk
      have BK := Lib.hid bk
      have HO := Lib.hid ho
      have HL := Lib.hid hol
      have i0' : (0 : Int) ≤ (k : Int) := by omega
      have i1' : (k : Int) < (a.ps.length : Int) := by omega
      clear hc pk bk hol
      by_cases hz : lev = 0
      · rw [if_pos hz] at hs
        have HS := Lib.hid hs
        subst hz
        clear hs
        have ho2 := ho.alloc (.cells #[.int .u32 cat] 70)
        have hcn := Lib.hid (cell_one_new wr (.int .u32 cat) 70)
        clear ho
        go_wp2_with (at_builtin; refine wpList_append_own_at _ rfl _ _ 75 rfl w.heap.size 70 i0 _ 1 4 Try.underlying75 hi0 hz0 hz1 hz2 rfl (by decide) u3 _ _ rfl ho2 ⟨wr.heap.size, 0, none⟩ 1 1 [.int .u32 cat] rfl rfl hcn.out (by intro u hu; simp at hu; subst hu; rfl) (by unfold maxLen; have := HL.out; omega) (by have := HL.out; omega) (by simp; omega) ?_; intro v2 w2 o2 g2 _ _)
        go_roundw
        case rel =>
          refine ⟨k + 1, by omega, by go_num, ?_, (KB.out.alloc _).grown g2 (own_ne ho2 (KB.out.alloc _) (by decide)), (PK.out.alloc (by omega) _).keep (fun p hp => World.cell?_of_block (g2.block p.block (by simp; omega) ?_)), (BK.out.alloc BK.out.size _).grown g2 (by simp; omega) (fun b hb => own_base ho2 hb)⟩
          · rw [HS.out]
            have e : (ownsP (a.ps.take k) ++ [cat]).length = (ownsP (a.ps.take k)).length + 1 := by simp
            rw [e]; simpa [u32s] using o2
          · intro e
            have := own_base ho2 e.symm
            omega
        case measure => simp [intOf]; omega
      · rw [if_neg hz] at hs
        have HS := Lib.hid hs
        have hzb : (lev == 0) = false := by simpa using hz
        clear hs hz ho
        go_wp2_with fail
        go_roundw
        case rel => exact ⟨k + 1, by omega, by go_num, by rw [HS.out]; exact HO.out, KB.out, PK.out, BK.out⟩
        case measure => simp [intOf]; omega
    · obtain rfl : k = a.ps.length := by omega
      have hE : Hid (ownsP (a.ps.take a.ps.length) = ownsL a) := by show _ = _; rw [List.take_length]; rfl
      have HO := Lib.hid ho
      have BK := Lib.hid bk
      clear hk hlt ho pk bk hol
      go_wp2_with fail
      go_ret
      exact ⟨_, rfl, by rw [← hE.out]; exact HO.out, BK.out⟩
end Go.Proofs.Ytihddficgpjgpaa
