/- Yjoin: more for readers -/
import Derived.Test.YtihddficgpjgpaaYlaw3
namespace Go.Proofs.Ytihddficgpjgpaa.Y
open Go.RowKit Go.ChangeShapes Go.WideShapes Go.ChangeAt

theorem fo_39_0 {d : Nat} {t : TypeId} {p : String} {af : Array Edge} {g : Option (Nat × Bool)} {x : Operand} : FieldOf1 Try.prog ⟨some d, .field 39 x 0, t, p, af, g⟩ x 0 2 := fun ev w c1 c3 v h1 h2 h3 => by
  match c1, c3, h2, h3 with
  | [], [a], _, _ =>
    have e : (Instr.field 39 (.agg #[v, a]) 0).run Try.prog w = .ok v w := by kernel_rfl
    go_simp
theorem rd_grownO {w w' : World} {g : Nat} {bs : List Int} {k : Nat} {b : Bool} {r : Option Nat} (h : Pk.RdAt w g bs k b) (hg : w.grownBy w' r) (hr : ∀ x, r = some x → g < x) : Pk.RdAt w' g bs k b := by
  cases r with
  | none => exact h.below (below_of_none hg)
  | some x => exact h.grown hg (hr x rfl)
/-- A row of a call's own is laid anew, or moved. -/
theorem StE.regrow {U : Prop} {N : Nat} {e : Env} {F0 : Cell → Prop} {a : Act} {w w' : World} {v v' : Value} (hu : ¬ U) (h : StE U N e (And2 F0 (Sl v 0)) a w) (hg : w.grownBy w' v.ownBlock) (h5 : v'.ownBlock = v.ownBlock ∨ v'.ownBlock = some w.heap.size) (hlt : ∀ g, v'.ownBlock = some g → g < w'.heap.size) : StE U N e (And2 F0 (Sl v' 0)) a w' := by
  have hkeep : Keeps (And2 F0 (Sl v 0)) w w' := ⟨hg.size, fun k hk hn => World.cell?_of_block (hg.block k.1 hk fun e => hn (.inr ⟨e.symm, Nat.zero_le _⟩)), fun b hb hn => hg.block b hb fun e => hn 0 (.inr ⟨e.symm, Nat.zero_le _⟩)⟩
  have hsub : ∀ k : Cell, k.1 < w.heap.size → And2 F0 (Sl v' 0) k → And2 F0 (Sl v 0) k := fun k hk h' => by
    rcases h' with h' | ⟨h1, h4⟩
    · exact .inl h'
    · rcases h5 with h5 | h5
      · exact .inr ⟨h5 ▸ h1, h4⟩
      · rw [h5] at h1; injection h1 with h1; omega
  refine ⟨h.size, h.defers, ⟨fun k hk => ?_, fun u => absurd u hu⟩, fun s k hs => (h.known s k hs).mono hkeep hsub⟩
  rcases hk with hk | ⟨hk, _⟩
  · exact Nat.lt_of_lt_of_le (h.fok.lt k (.inl hk)) hg.size
  · exact hlt _ hk
section
variable {U : Prop} {P : Program} {Q : Exit → Act → World → Prop} {N : Nat} {e : Env} {F F0 : Cell → Prop} {a : Act} {w : World}
/-- append(nil, l..), of which no cell is known from now on. -/
theorem copy0_step {ops : Array Oper} {rest : List Oper} {o : Oper} {α : Type} {L : Lay α} {enc : α → List Value} {B : Nat} {T E : TypeId} {l : List α} {i : TypeInfo} {z : Value} {bytes d : Nat} (hf : Flat L enc) (sx : Nat) (hu : ¬ U) (h : StE U N e F a w)
    (ho : o.op = .call { callee := .builtin .append, args := #[.const (.slice none 0 0), .tmp sx], argTypes := #[T, T] }) (hd : o.dst = some d) (hdN : decide (d < N) = true) (hgd : o.guard = none)
    (ht : P.underlying T = some (.slice E)) (hi : P.info? E = some i) (hz : i.zero = some z) (hsize : i.size = L.n) (hby : i.bytes = bytes) (hzs : z.cells.size = L.n) (hsz : 0 < L.n) (hb64 : bytes ≤ 64)
    (hsx : e.lookup sx = some (true, .one (Lay.sl L) l)) (hl : l.length ≤ 1000000) (hB : B ≤ w.heap.size)
    (hQ : ∀ v' a' w', Grows L enc B E F w' v' l → (∀ x, v'.ownBlock = some x → w.heap.size ≤ x) → Below w.heap.size w w' → StE U N ((d, true, .val v') :: e) (And2 F (Sl v' 0)) a' w' → wpList P ops Q rest a' w') : wpList P ops Q (o :: rest) a w := by
  obtain ⟨A, cp, e1, hr, _⟩ := reads_of_sl hf (h.get sx hsx)
  have hby2 : (0 + l.length) * bytes ≤ 140737488355328 := Nat.le_trans (Nat.mul_le_mul (show 0 + l.length ≤ 1000000 by omega) hb64) (by decide)
  have hdN' : d < N := by simpa using hdN
  refine wpList_plain hgd fun K hK => ?_
  refine wp_append_any w (.const (.slice none 0 0)) (.tmp sx) T ho w.heap.size E i z L.n bytes ht hi hz hsize hby hzs hsz (.slice none 0 0) 0 [] rfl (World.ownsRow_nil _ _ _ _) w.heap.size A l.length cp _ e1 hr (hf.ones l) (by unfold maxLen; omega) hby2 (Nat.le_refl _) fun v' w' h2 h3 _ => hK _ _ ?_
  have hb := below_of_none h3
  have hown : w'.ownsRow w.heap.size E L.n v' l.length (l.flatMap enc) := by simpa using h2
  have hG : Grows L enc B E F w' v' l := ⟨own_mono hown hB, fun g o hg hf0 => by
    have := own_base hown hg
    have := h.fok.lt (g, o) hf0
    simp only at this
    omega⟩
  have hF0' : FOK U F w' := h.fok.below hb
  have hsub : ∀ k : Cell, k.1 < w.heap.size → And2 F (Sl v' 0) k → F k := fun k hk h' => by
    rcases h' with h' | ⟨h1, _⟩
    · exact h'
    · have := own_base hown h1; omega
  have hst : StE U N e (And2 F (Sl v' 0)) a w' := ⟨h.size, h.defers, ⟨fun k hk => by
    rcases hk with h1 | ⟨h1, _⟩
    · exact hF0'.lt k h1
    · exact (hown.lt k.1 h1).2, fun u => absurd u hu⟩, fun s k hs => (h.known s k hs).mono (.of hb) hsub⟩
  rw [hd]
  exact hQ v' _ w' hG (fun x hx => own_base hown hx) hb (hst.put (Below.refl _ _) hdN' ⟨fun _ => rfl, fun e => by cases e⟩)
/-- Such a row grows by another; the whole is known then. -/
theorem app_step {ops : Array Oper} {rest : List Oper} {o : Oper} {α : Type} {L : Lay α} {enc : α → List Value} {B : Nat} {T E : TypeId} {v : Value} {l l2 : List α} {i : TypeInfo} {z : Value} {bytes d : Nat} (hf : Flat L enc) (sa sb : Nat) (hu : ¬ U) (h : StE U N e (And2 F0 (Sl v 0)) a w) (hG : Grows L enc B E F0 w v l)
    (ho : o.op = .call { callee := .builtin .append, args := #[.tmp sa, .tmp sb], argTypes := #[T, T] }) (hd : o.dst = some d) (hdN : decide (d < N) = true) (hgd : o.guard = none)
    (ht : P.underlying T = some (.slice E)) (hi : P.info? E = some i) (hz : i.zero = some z) (hsize : i.size = L.n) (hby : i.bytes = bytes) (hzs : z.cells.size = L.n) (hsz : 0 < L.n)
    (hsa : e.lookup sa = some (true, .val v)) (hsb : e.lookup sb = some (true, .one (Lay.sl L) l2)) (hB : B ≤ w.heap.size) (h63 : l.length + l2.length ≤ maxLen) (hbytes : (l.length + l2.length) * bytes ≤ 140737488355328)
    (hQ : ∀ a' w', w.grownBy w' v.ownBlock → StE U N ((d, true, .one (Lay.sl L) (l ++ l2)) :: e) F0 a' w' → wpList P ops Q rest a' w') : wpList P ops Q (o :: rest) a w := by
  have ea : a.eval (.tmp sa) = v := h.get sa hsa
  obtain ⟨A, cp, e1, hr, _⟩ := reads_of_sl hf (h.get sb hsb)
  have hdN' : d < N := by simpa using hdN
  refine wpList_plain hgd fun K hK => ?_
  refine wp_append_any w (.tmp sa) (.tmp sb) T ho B E i z L.n bytes ht hi hz hsize hby hzs hsz v l.length _ ea hG.own w.heap.size A l2.length cp _ e1 hr (hf.ones l2) h63 hbytes hB fun v' w' h2 h3 h4 => hK _ _ ?_
  have hap : (l ++ l2).length = l.length + l2.length := List.length_append
  have hown : w'.ownsRow B E L.n v' (l ++ l2).length ((l ++ l2).flatMap enc) := by rw [hap, List.flatMap_append]; exact h2
  have hst := (h.regrow hu h3 h4 fun g hg => (hown.lt g hg).2).less (F' := F0) fun _ h => .inl h
  rw [hd]
  refine hQ _ w' h3 (hst.put (Below.refl _ _) hdN' ⟨fun _ => sl_of_own hf hown fun g o hg _ hF => ?_, fun e => by cases e⟩)
  rcases h4 with h4 | h4
  · exact hG.dis g o (h4 ▸ hg) hF
  · rw [h4] at hg; cases hg
    exact Nat.lt_irrefl _ (h.fok.lt (w.heap.size, o) (.inl hF))
end
def okX (bs : List Int) (k n : Nat) : Bool := decide (k + n ≤ bs.length)
def numX (bs : List Int) (k n : Nat) : Int := if okX bs k n = true then Pk.numL ((bs.drop k).take n) else 0
def atX (bs : List Int) (k n : Nat) : Nat := if okX bs k n = true then k + n else k
theorem cNumX {w : World} {g : Nat} {bs : List Int} {k : Nat} (h : Pk.RdAt w g bs k false) (hB : Pk.Byt bs) (hm : bs.length ≤ 1000000) {n : Nat} (h1 : 1 ≤ n) (h8 : n ≤ 8) : Calls Try.prog 32 #[.pointer (some ⟨g, 0, none⟩), .int .i64 n] w fun e w' => e = .returned (.int .u64 (numX bs k n)) ∧ Pk.RdAt w' g bs (atX bs k n) (!okX bs k n) ∧ w.grownBy w' (some g) := by
  unfold numX atX
  cases ho : okX bs k n with
  | true => exact cNum h hB hm (of_decide_eq_true ho) h1 h8
  | false =>
    have := of_decide_eq_false ho
    have hl := h.at_le
    exact cNumF h hm (n := (n : Int)) (by omega) (by omega) (.inr (by omega))
theorem okX_join (a b : List Int) (n : Nat) : okX (a ++ b) a.length n = okX b 0 n := by
  unfold okX
  rw [List.length_append, decide_eq_decide]
  omega
theorem numX_join (a b : List Int) (n : Nat) : numX (a ++ b) a.length n = numX b 0 n := by
  unfold numX
  rw [okX_join, List.drop_left, List.drop_zero]
theorem atX_join (a b : List Int) (n : Nat) : (((a ++ b).length : Int) - (atX (a ++ b) a.length n : Int) != ((b.length : Int) - (atX b 0 n : Int))) = false := by
  unfold atX
  rw [okX_join]
  split
  · rw [List.length_append]; simp; omega
  · rw [List.length_append]; simp; omega
theorem joins_len {a b : List Int} (h : (decide ((500 : Int) < (a.length : Int)) || decide ((500 : Int) < (b.length : Int))) = false) : a.length ≤ 500 ∧ b.length ≤ 500 := by
  rw [Bool.or_eq_false_iff, decide_eq_false_iff_not, decide_eq_false_iff_not] at h
  omega
set_option maxRecDepth 100000 in
set_option maxHeartbeats 800000 in
/-- A label of a reader that has failed. -/
theorem cLabF {w : World} {g : Nat} {bs : List Int} {k : Nat} (h : Pk.RdAt w g bs k true) (hm : bs.length ≤ 1000000) :
    Calls Try.prog 40 #[.pointer (some ⟨g, 0, none⟩)] w fun e w' => e = .returned (.agg #[.int .i64 0, .slice none 0 0]) ∧ Pk.RdAt w' g bs k true ∧ w.grownBy w' (some g) := by
  have hl := h.lt
  have h0 := h.below ((Below.refl w.heap.size w).alloc (Nat.le_refl _) (.cells #[.int .i64 0, .slice none 0 0] 39))
  have hG0 : w.grownBy (w.alloc (.cells #[.int .i64 0, .slice none 0 0] 39)) (some g) := only_of_below ((Below.refl w.heap.size w).alloc (Nat.le_refl _) _) _
  have hB0 := Blk.new w 39 #[.int .i64 0, .slice none 0 0]
  go_enter Try.func40, Try.ntmps40
  go_upto_region 1 with fail
  clear h
  generalize hw1 : w.alloc (.cells #[.int .i64 0, .slice none 0 0] 39) = w1 at *
  go_upto_region 2 with (go_at_call 32; refine (cNumF h0 hm (n := 1) (by decide) (by decide) (.inl rfl)).mono ?_; rintro e w2 ⟨rfl, h2, g2⟩)
  have hw2 : w.heap.size < w2.heap.size := Nat.lt_of_lt_of_le hB0.lt g2.size
  have h3 := h2.below ((Below.refl w2.heap.size w2).alloc (Nat.le_refl _) (.cells #[.int .i64 0, .slice none 0 0] 39))
  have G3 : w.grownBy (w2.alloc (.cells #[.int .i64 0, .slice none 0 0] 39)) (some g) := only_alloc (only_trans hG0 g2) _
  have B3 : Blk (w2.alloc (.cells #[.int .i64 0, .slice none 0 0] 39)) w.heap.size 39 #[.int .i64 0, .slice none 0 0] := (hB0.grown g2 (by simp; omega)).alloc _
  generalize w2.alloc (.cells #[.int .i64 0, .slice none 0 0] 39) = w3 at *
  clear h2 h0 hB0 hG0 hw1
  go_wp2_with (go_at_call 32; refine (cNumF h3 hm (n := 1) (by decide) (by decide) (.inl rfl)).mono ?_; rintro e w4 ⟨rfl, h4, g4⟩)
  have B4 : Blk w4 w.heap.size 39 #[.int .i64 0, .slice none 0 0] := B3.grown g4 (by simp; omega)
  have G4 := only_trans G3 g4
  clear h3 g4 B3 G3
  go_loop [5] (fun v => v = .int .i64 0) (fun _ => 0)
  case atStart => rfl
  case round =>
    obtain rfl := hrel
    go_wp2_with (first
      | (go_at_call 33; refine (Pk.bad_any h4).mono ?_; rintro e w5 ⟨rfl, rfl⟩)
      | (go_at_call 39; refine (cFail h4).mono ?_; rintro e w5 ⟨rfl, h5, g5⟩; have B5 : Blk w5 w.heap.size 39 #[.int .i64 0, .slice none 0 0] := B4.grown g5 (by simp; omega); have G5 := only_trans G4 g5; have e0 := B5.cell 0; have e1 := B5.cell 1; have f0 := B5.frozen 0; have f1 := B5.frozen 1; simp at e0 e1))
    have K := (B5.set_ 0 (.int .i64 0)).set_ 1 (.slice none 0 0)
    have hg := only_setCell (only_setCell (only_refl w5 (some w.heap.size)) (p := ⟨w.heap.size, 0, none⟩) (.inl rfl) (.int .i64 0)) (p := ⟨w.heap.size, 1, none⟩) (.inl rfl) (.slice none 0 0)
    have hG := only_setCell (only_setCell G5 (p := ⟨w.heap.size, 0, none⟩) (.inr (Nat.le_refl _)) (.int .i64 0)) (p := ⟨w.heap.size, 1, none⟩) (.inr (Nat.le_refl _)) (.slice none 0 0)
    refine bodyPost_ret (results_cell_row rfl _ _ w.heap.size 39 #[.int .i64 0, .slice none 0 0] (0, 0) _ (by rfl) K Try.underlying39 rfl (by kernel_rfl)) rfl ?_
    exact ⟨rfl, h5.grown hg hl, hG⟩

end Go.Proofs.Ytihddficgpjgpaa.Y
