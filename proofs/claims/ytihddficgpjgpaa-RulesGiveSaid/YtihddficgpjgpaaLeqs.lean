/- label.Leq: a range over a function that goes over what both labels name. -/
import Derived.Test.YtihddficgpjgpaaTurn
import Derived.RangeFuncNested
import Derived.RangeFuncFrom
import Derived.RangeFuncBound
import Derived.RangeFuncCalls
import Derived.RangeFuncLeaves
import Derived.Shelf.Abstract
import Derived.Shelf.RegionOpen
import Derived.OwnWalkIn
import Derived.TacticsInMore
import Derived.LoopNIn
import Derived.LoopIn
namespace Go.Proofs.Ytihddficgpjgpaa
open Go.RowKit Go.ChangeShapes Go.WideShapes Go.Shelf
attribute [local go_sem] Oper.semAt_some

theorem pairs_make (Aa Ab : Option Addr) (na nb ca cb : Nat) (da db : Int) (w : World) :
    Calls Try.prog 107 #[.agg #[.int .i64 da, .slice Aa na ca], .agg #[.int .i64 db, .slice Ab nb cb]] w fun e w' => e = .returned (.func (.func 125) #[] #[.pointer (some ⟨w.heap.size, 0, none⟩), .pointer (some ⟨w.heap.size + 1, 0, none⟩)]) ∧
      w' = (w.alloc (.cells #[.int .i64 da, .slice Aa na ca] 39)).alloc (.cells #[.int .i64 db, .slice Ab nb cb] 39) := by
  go_enter Try.func107, Try.ntmps107
  go_wp2
  go_ret
  exact ⟨by simp, rfl⟩

theorem room_of_none {F : Fence} (hd : F.depth = none) (k : Nat) : F.room k := fun d h => by rw [hd] at h; cases h
theorem RoundIn.anyDepth {F : Fence} (hd : F.depth = none) {m m' : Nat} {P : Program} {l : Nat} {f : FuncId} {tmps : Array Value} {assign body : Code} {w : World} {R : Ending → World → Prop}
    (h : RoundIn F m P l f tmps assign body w R) : RoundIn F m' P l f tmps assign body w R := ⟨h.1, fun c cs _ => h.2 c cs (room_of_none hd _)⟩
theorem YieldAt.anyDepth {F : Fence} (hd : F.depth = none) {m : Nat} (m' : Nat) {P : Program} {l : Nat} {args : Array Value} {W : World} {R : Ending → World → Prop} (h : YieldAt F m P l args W R) : YieldAt F m' P l args W R := by
  obtain ⟨fn, tmps, assign, body, hy, hR⟩ := h
  exact ⟨fn, tmps, assign, body, hy, RoundIn.anyDepth hd hR⟩

def encs2 (x : Int × Bool) : Array Value := #[.int .u32 x.1, .bool x.2]
/-- What is asked of each round: goes on, or has said that it is enough. -/
def RoundEnd (Q Qx : World → Prop) (e : Ending) (w' : World) : Prop := (e = .returned (.bool true) ∧ Q w') ∨ (e = .returned (.bool false) ∧ Qx w')

theorem pairs11_any (l gy : Nat) (c x y : Int) (v : Bool) (hv : decide (x ≤ y) = v) (w : World) (Q Qx : World → Prop) (hb : Blk w gy 149 #[.func (.yield l) #[] #[]]) (m : Nat)
    (hY : YieldAt Fence.wide m Try.prog l #[.int .u32 c, .bool v] w (RoundEnd Q Qx)) :
    Calls Try.prog 127 #[.int .u32 c, .int .i64 x, .int .i64 y, .pointer (some ⟨gy, 0, none⟩)] w (RoundEnd Q Qx) := by
  refine (callsIn_wide (n := 5)).1 ?_
  refine callsIn_of_wp Try.func127 rfl trivial ?_ rfl
  simp only [Try.ntmps127, List.size_toArray, List.length_cons, List.length_nil, Nat.reduceAdd, Nat.reduceSub, Array.replicate_succ, Array.replicate_zero, List.push_toArray, List.append_toArray, List.nil_append, List.cons_append]
  have e0 := hb.cell 0
  simp at e0
  clear hb
  obtain ⟨fn, tmps, assign, body, hy, hR⟩ := YieldAt.anyDepth rfl 4 hY
  gi_wp2
  refine hR.mono ?_
  rintro e W' (⟨rfl, h⟩ | ⟨rfl, h⟩)
  · gi_wp2
    go_ret
    exact .inl ⟨rfl, h⟩
  · gi_wp2
    go_ret
    exact .inr ⟨rfl, h⟩

/-- Each block of cells is as it was. -/
def KeptC (W W' : World) : Prop := ∀ (g : Nat) (cs : Array Value) (t : TypeId) (fr : Nat × Nat), W.heap[g]? = some (.cells cs t fr) → W'.heap[g]? = some (.cells cs t fr)
theorem KeptC.refl (W : World) : KeptC W W := fun _ _ _ _ h => h
theorem KeptC.trans {A B C : World} (h : KeptC A B) (k : KeptC B C) : KeptC A C := fun g cs t fr e => k g cs t fr (h g cs t fr e)
theorem KeptC.drewN (W : World) (n : Nat) : KeptC W (W.drewN n) := fun _ _ _ _ h => h
theorem KeptC.blk {W W' : World} (h : KeptC W W') {g : Nat} {t : TypeId} {cs : Array Value} (hb : Blk W g t cs) : Blk W' g t cs := h g cs t (0, 0) hb
theorem KeptC.cell {W W' : World} (h : KeptC W W') {p : Addr} {v : Value} (hc : W.cell? p = some v) : W'.cell? p = some v := by
  have hh : ∃ cs t fr, W.heap[p.block]? = some (.cells cs t fr) := by
    unfold World.cell? at hc
    split at hc
    · exact ⟨_, _, _, by assumption⟩
    · cases hc
  obtain ⟨cs, t, fr, hb⟩ := hh
  exact (World.cell?_of_block ((h _ _ _ _ hb).trans hb.symm)).trans hc
theorem KeptC.pairs {W W' : World} (h : KeptC W W') {B : Nat} {A : Option Addr} {l : List (Int × Int)} (hp : PairsAt W B A l) : PairsAt W' B A l := fun hl => by
  obtain ⟨b, off, e, hb, hc⟩ := hp hl
  exact ⟨b, off, e, hb, fun k hk => ⟨h.cell (hc k hk).1, h.cell (hc k hk).2⟩⟩
theorem keptC_b {w : World} (W : World) (l : Nat) (o o' : Obj) (_ : w.heap.size ≤ l) (h : W.heap[l]? = some o) (hc : o.isCells = false) (_ : o.isWalk = false) : KeptC W (W.putObj l o') := fun g cs t fr e => by
  by_cases hg : g = l
  · subst hg
    rw [h] at e
    cases e
    cases hc
  · rw [World.putObj_heap_other (fun e => hg e)]
    exact e

/-- What going over the levels tells. -/
def leqL (a b : Lab) : List (Int × Bool) := (bothL a b).map fun t => (t.1, decide (t.2.1 ≤ t.2.2))
def lq (t : Int × Int × Int) : Int × Bool := (t.1, decide (t.2.1 ≤ t.2.2))

theorem enters127 : ∀ args w, (callFunc 127 args).run Try.prog w = .ok (.enter 127 args) w := enters_of Try.func127 (by kernel_rfl) rfl
theorem enters125 : ∀ args w, (callFunc 125 args).run Try.prog w = .ok (.enter 125 args) w := enters_of Try.func125 (by kernel_rfl) rfl

set_option maxRecDepth 100000 in
set_option maxHeartbeats 800000 in
theorem pairs1_stops (n g1 g2 : Nat) (Aa Ab : Option Addr) (ca cb : Nat) (a b : Lab) (w : World) (hla : a.ps.length ≤ 100000) (hlb : b.ps.length ≤ 100000) (h1 : Blk w g1 39 #[.int .i64 a.d, .slice Aa a.ps.length ca]) (h2 : Blk w g2 39 #[.int .i64 b.d, .slice Ab b.ps.length cb])
    (pa : PairsAt w w.heap.size Aa a.ps) (pb : PairsAt w w.heap.size Ab b.ps) :
    SeqStopsK Fence.wide n Try.prog 125 #[.pointer (some ⟨g1, 0, none⟩), .pointer (some ⟨g2, 0, none⟩)] encs2 KeptC (fun xs => xs = leqL a b) (fun pre => pre <+: leqL a b) (leqL a b).length w := fun l J Jx W hW hJ hJx hY h0 => by
  refine callsIn_wide.2 ?_
  have k1 := h1.below hW h1.lt
  have k2 := h2.below hW h2.lt
  have e10 := (k1.alloc (.cells #[.func (.yield l) #[] #[]] 149)).cell 0
  have e11 := (k1.alloc (.cells #[.func (.yield l) #[] #[]] 149)).cell 1
  have e20 := (k2.alloc (.cells #[.func (.yield l) #[] #[]] 149)).cell 0
  have e21 := (k2.alloc (.cells #[.func (.yield l) #[] #[]] 149)).cell 1
  simp at e10 e11 e20 e21
  have HJ := Lib.hid hJ
  have HY := Lib.hid hY
  have pa1 := pa.below hW
  have pb1 := pb.below hW
  have HW := Lib.hid hW.size
  clear hJ hJx hY hW h1 h2 pa pb k1 k2
  show Calls Try.prog 125 #[.func (.yield l) #[] #[], .pointer (some ⟨g1, 0, none⟩), .pointer (some ⟨g2, 0, none⟩)] W _
  go_enter Try.func125, Try.ntmps125
  go_wp2_with (go_at_call 126; refine (both_make _ _ _ _ _ _ _ _ _).mono ?_; rintro e w' ⟨rfl, rfl⟩)
  have hB := ((Below.refl W.heap.size W).alloc (Nat.le_refl _) (.cells #[.func (.yield l) #[] #[]] 149))
  have s1 : (W.alloc (.cells #[.func (.yield l) #[] #[]] 149)).heap.size = W.heap.size + 1 := by simp
  have ky := Blk.new W 149 #[.func (.yield l) #[] #[]]
  generalize W.alloc (.cells #[.func (.yield l) #[] #[]] 149) = w1 at *
  have ka := Blk.new w1 39 #[.int .i64 a.d, .slice Aa a.ps.length ca]
  have hB2 := hB.alloc hB.size (.cells #[.int .i64 a.d, .slice Aa a.ps.length ca] 39)
  have s2 : (w1.alloc (.cells #[.int .i64 a.d, .slice Aa a.ps.length ca] 39)).heap.size = W.heap.size + 1 + 1 := by simp [s1]
  have ky2 := ky.alloc (.cells #[.int .i64 a.d, .slice Aa a.ps.length ca] 39)
  rw [s1] at ka
  generalize w1.alloc (.cells #[.int .i64 a.d, .slice Aa a.ps.length ca] 39) = w2 at *
  have kb := Blk.new w2 39 #[.int .i64 b.d, .slice Ab b.ps.length cb]
  have hB3 := hB2.alloc hB2.size (.cells #[.int .i64 b.d, .slice Ab b.ps.length cb] 39)
  have ky3 := ky2.alloc (.cells #[.int .i64 b.d, .slice Ab b.ps.length cb] 39)
  have ka3 := ka.alloc (.cells #[.int .i64 b.d, .slice Ab b.ps.length cb] 39)
  rw [s2] at kb
  generalize w2.alloc (.cells #[.int .i64 b.d, .slice Ab b.ps.length cb] 39) = w3 at *
  have hJ3 : J [] w3 := HJ.out [] W w3 none h0 ⟨hB3.os, hB3.tape, hB3.output, hB3.size, fun i hi _ => hB3.block i hi⟩ (fun r e => by cases e)
  have hyy : BothYields 127 #[.pointer (some ⟨W.heap.size, 0, none⟩)] a b (fun pre V => J (pre.map lq) V ∧ KeptC w3 V) (fun pre V => Jx (pre.map lq) V) := by
    intro pre c x y V hjv hpre
    have hlen : (pre.map lq).length < (leqL a b).length := by
      have := hpre.length_le
      simp [leqL] at this ⊢
      omega
    have hr := HY.out (pre.map lq) (c, decide (x ≤ y)) V hjv.1 hlen
    refine (pairs11_any l W.heap.size c x y _ rfl V (fun W' => J (pre.map lq ++ [(c, decide (x ≤ y))]) W' ∧ KeptC V W') (fun W' => Jx (pre.map lq ++ [(c, decide (x ≤ y))]) W') (hjv.2.blk ky3) (n - 1) ?_).mono ?_
    · exact hr
    · rintro e W' (⟨rfl, h1, h2⟩ | ⟨rfl, h1⟩)
      · exact .inl ⟨rfl, by simpa [lq] using h1, hjv.2.trans h2⟩
      · exact .inr ⟨rfl, by simpa [lq] using h1⟩
  refine (both_any 127 _ enters127 _ _ w.heap.size Aa Ab ca cb a b (fun pre V => J (pre.map lq) V ∧ KeptC w3 V) (fun pre V => Jx (pre.map lq) V) ?_ ?_ hyy hla hlb _ ?_).mono ?_
  · intro pre V h
    exact ⟨h.2.blk ka3, h.2.blk kb, h.2.pairs (pa1.below (hB3.mono HW.out)), h.2.pairs (pb1.below (hB3.mono HW.out))⟩
  · intro pre V m h
    exact ⟨HJ.out _ V _ none h.1 (only_drewN (only_refl V none) m) (fun r e => by cases e), h.2⟩
  · exact ⟨hJ3, KeptC.refl _⟩
  · rintro e V ⟨rfl, hE⟩
    have HE : Hid (((∃ xs, xs = leqL a b ∧ J xs V) ∨ ∃ pre, pre <+: leqL a b ∧ Jx pre V)) := by
      rcases hE with h | ⟨pre, hp, h⟩
      · exact .inl ⟨_, rfl, h.1⟩
      · exact .inr ⟨_, hp.map lq, h⟩
    clear hE hyy
    go_wp2
    go_end0
    exact ⟨⟨_, rfl⟩, HE.out⟩
end Go.Proofs.Ytihddficgpjgpaa
