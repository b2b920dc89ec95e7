/- Yread: readers -/
import Derived.Test.YtihddficgpjgpaaYpack
namespace Go.Proofs.Ytihddficgpjgpaa.Y
open Go.RowKit Go.ChangeShapes Go.WideShapes Go.ChangeAt

section
variable {d : Nat} {t : TypeId} {p : String} {af : Array Edge} {g : Option (Nat × Bool)} {x x2 : Operand}
theorem sl_hi : ∀ (ev : Operand → Value) (w : World) (A : Option Addr) (len cap k : Nat), ev x = .slice A len cap → ev x2 = .int .i64 k → k ≤ cap → (execOp ev ⟨some d, .slice 22 x none (some x2) none, t, p, af, g⟩).run Try.prog w = .ok (.value (.slice A k cap)) w := fun ev w A len cap k h1 h2 h3 => by
  have e1 : (0 : Int) ≤ (k : Int) ∧ (k : Int) ≤ (cap : Int) := by omega
  go_simp
theorem sl_lo : ∀ (ev : Operand → Value) (w : World) (A : Option Addr) (len cap k : Nat), ev x = .slice A len cap → ev x2 = .int .i64 k → k ≤ len → len ≤ cap → (execOp ev ⟨some d, .slice 22 x (some x2) none none, t, p, af, g⟩).run Try.prog w = .ok (.value (.slice (if cap = k then A else A.map (fun a => a.add k)) (len - k) (cap - k))) w := fun ev w A len cap k h1 h2 h3 h4 => by
  have e1 : (0 : Int) ≤ (k : Int) ∧ (k : Int) ≤ (len : Int) := by omega
  go_simp
theorem b_shl {k : Nat} (hk : k < 64) : Run2 Try.prog ⟨some d, .binOp .shl 23 x x2 26, t, p, af, g⟩ x x2 (.int .u64 1) (.int .u64 k) (.int .u64 (IntKind.u64.wrap (2 ^ k))) := fun ev w h1 h2 => by
  have hm : min k 64 = k := by omega
  go_simp
theorem b_mul_26 {a b : Int} : Run2 Try.prog ⟨some d, .binOp .mul 26 x x2 26, t, p, af, g⟩ x x2 (.int .u64 a) (.int .u64 b) (.int .u64 (IntKind.u64.wrap (a * b))) := fun ev w h1 h2 => by go_simp
theorem b_sub_23 {a b : Int} : Run2 Try.prog ⟨some d, .binOp .sub 23 x x2 23, t, p, af, g⟩ x x2 (.int .u64 a) (.int .u64 b) (.int .u64 (IntKind.u64.wrap (a - b))) := fun ev w h1 h2 => by go_simp
theorem b_and_23 {a b : Int} : Run2 Try.prog ⟨some d, .binOp .and 23 x x2 23, t, p, af, g⟩ x x2 (.int .u64 a) (.int .u64 b) (.int .u64 (bits .and .u64 a b)) := fun ev w h1 h2 => by go_simp
theorem b_mul_3 {a b : Int} : Run2 Try.prog ⟨some d, .binOp .mul 3 x x2 3, t, p, af, g⟩ x x2 (.int .i64 a) (.int .i64 b) (.int .i64 (IntKind.i64.wrap (a * b))) := fun ev w h1 h2 => by go_simp
theorem cv_3_26 {a : Int} : Run1 Try.prog ⟨some d, .convert 3 26 x, t, p, af, g⟩ x (.int .i64 a) (.int .u64 (IntKind.u64.wrap a)) := fun ev w h1 => by go_simp
end
section
variable {P : Program} {U : Prop} {ops : Array Oper} {Q : Exit → Act → World → Prop} {N d : Nat} {e : Env} {t : TypeId} {p : String} {af : Array Edge} {g : Option (Nat × Bool)} {c : Bool} {x x2 : Operand}
theorem p_cvE {u u' : TypeId} {v : Value} {k : IntKind} {n n' : Int} (hn : n = n') (hg : GdE ops e g c) (hx : OpdE e c x (.val v)) (hr : Run1 P ⟨some d, .convert u u' x, t, p, af, g⟩ x v (.int k n)) : Pays U P ops Q N e ⟨some d, .convert u u' x, t, p, af, g⟩ (c, .int k n') := hn ▸ p_conv hg hx hr
theorem p_binE {u u' : TypeId} {o : BinOp} {v1 v2 : Value} {k : IntKind} {n n' : Int} (hn : n = n') (hg : GdE ops e g c) (hx : OpdE e c x (.val v1)) (hx2 : OpdE e c x2 (.val v2)) (hr : Run2 P ⟨some d, .binOp o u x x2 u', t, p, af, g⟩ x x2 v1 v2 (.int k n)) : Pays U P ops Q N e ⟨some d, .binOp o u x x2 u', t, p, af, g⟩ (c, .int k n') := hn ▸ p_bin hg hx hx2 hr
theorem p_slHi {l : List Int} {k : Nat} (hk : k ≤ l.length) (hg : GdE ops e g c) (hx : OpdE e c x (.by l)) (hx2 : OpdE e c x2 (.int .i64 k)) : Pays U Try.prog ops Q N e ⟨some d, .slice 22 x none (some x2) none, t, p, af, g⟩ (c, .by (l.take k)) :=
  pVal hg fun e a w F hk' => by
    obtain ⟨A, cp, e1, h2, h3⟩ := hx a w F (fun s hs => hk' s (by simp [Op.operands, hs])) e
    have e2 := hx2 a w F (fun s hs => hk' s (by simp [Op.operands, hs])) e
    simp only [List.cons.injEq, and_true] at e1
    have hl : (l.take k).length = k := by simp; omega
    refine ⟨_, sl_hi _ w A _ _ k e1 e2 (by omega), A, cp, by rw [hl], fun hp => ?_, by omega⟩
    obtain ⟨b, off, rfl, h4, h6⟩ := h2 (by omega)
    refine ⟨b, off, rfl, h4, fun i hi => ?_⟩
    have hi' : i < l.length := by omega
    obtain ⟨cs, h7, h8⟩ := h6 i hi'
    exact ⟨cs, by rw [List.getElem_take]; exact h7, h8⟩
theorem p_slLo {l : List Int} {k : Nat} (hk : k ≤ l.length) (hg : GdE ops e g c) (hx : OpdE e c x (.by l)) (hx2 : OpdE e c x2 (.int .i64 k)) : Pays U Try.prog ops Q N e ⟨some d, .slice 22 x (some x2) none none, t, p, af, g⟩ (c, .by (l.drop k)) :=
  pVal hg fun e a w F hk' => by
    obtain ⟨A, cp, e1, h2, h3⟩ := hx a w F (fun s hs => hk' s (by simp [Op.operands, hs])) e
    have e2 := hx2 a w F (fun s hs => hk' s (by simp [Op.operands, hs])) e
    simp only [List.cons.injEq, and_true] at e1
    have hl : (l.drop k).length = l.length - k := by simp
    refine ⟨_, sl_lo _ w A _ _ k e1 e2 hk h3, _, cp - k, by rw [hl], fun hp => ?_, by omega⟩
    obtain ⟨b, off, rfl, h4, h6⟩ := h2 (by omega)
    rw [if_neg (by omega)]
    refine ⟨b, off + k, by simp [add_none], h4, fun i hi => ?_⟩
    have hi' : k + i < l.length := by omega
    obtain ⟨cs, h7, h8⟩ := h6 (k + i) hi'
    refine ⟨cs, by rw [List.getElem_drop]; exact h7, fun j hj => ?_⟩
    have := h8 j hj
    rwa [show off + (k + i) * byL.n + j = off + k + i * byL.n + j by show off + (k + i) * 1 + j = off + k + i * 1 + j; omega] at this
end
theorem rd_blk {w : World} {g : Nat} {bs : List Int} {k : Nat} {b : Bool} (h : Pk.RdAt w g bs k b) (o : Nat) (x : Int) : w.cell? ⟨g, o, none⟩ ≠ some (.int .u32 x) := by
  obtain ⟨A, c, hb, _⟩ := h
  rw [hb.cell]
  rcases o with _ | _ | _ | o <;> simp
/-- Another reader is written. -/
theorem rd_other {w w' : World} {g g' : Nat} {bs bs' : List Int} {k k' : Nat} {b b' : Bool} (h : Pk.RdAt w g bs k b) (h' : Pk.RdAt w g' bs' k' b') (hne : g ≠ g') (hg : w.grownBy w' (some g')) : Pk.RdAt w' g bs k b := by
  have hl := h.lt
  obtain ⟨A, c, h1, h2, h3, h4⟩ := h
  refine ⟨A, c, h1.grown hg (by simpa using hne), fun hp => ?_, h3, h4⟩
  obtain ⟨b0, off, rfl, hb, hc⟩ := h2 hp
  refine ⟨b0, off, rfl, hb, fun i hi => ?_⟩
  have hne2 : b0 ≠ g' := fun e => by
    obtain ⟨A', c', h5, _⟩ := h'
    have := hc i hi
    rw [e, h5.cell] at this
    generalize off + i = o at this
    rcases o with _ | _ | _ | o <;> simp at this
  exact (World.cell?_of_block (hg.block b0 (by omega) (fun e => hne2 (by injection e)))).trans (hc i hi)
section
variable {w : World} {g : Nat} {bs : List Int} {k : Nat} {b : Bool}
theorem cBad (h : Pk.RdAt w g bs k b) : Calls Try.prog 33 #[.pointer (some ⟨g, 0, none⟩)] w fun e w' => e = .returned (.bool b) ∧ Pk.RdAt w' g bs k b ∧ w.grownBy w' (some g) := (Pk.bad_any h).mono (by rintro _ w' ⟨rfl, rfl⟩; exact ⟨rfl, h, only_refl _ _⟩)
theorem cRest (h : Pk.RdAt w g bs k b) (hm : bs.length ≤ 1000000) : Calls Try.prog 34 #[.pointer (some ⟨g, 0, none⟩)] w fun e w' => e = .returned (.int .i64 ((bs.length : Int) - k)) ∧ Pk.RdAt w' g bs k b ∧ w.grownBy w' (some g) := (Pk.rest_any h hm).mono (by rintro _ w' ⟨rfl, hb⟩; exact ⟨rfl, h.below hb, only_of_below hb _⟩)
theorem cFail (h : Pk.RdAt w g bs k b) : Calls Try.prog 39 #[.pointer (some ⟨g, 0, none⟩)] w fun e w' => e = .returned (.tuple #[]) ∧ Pk.RdAt w' g bs k true ∧ w.grownBy w' (some g) := Pk.fail_any h
theorem cNum (h : Pk.RdAt w g bs k false) (hB : Pk.Byt bs) (hm : bs.length ≤ 1000000) {n : Nat} (hn : k + n ≤ bs.length) (h1 : 1 ≤ n) (h8 : n ≤ 8) : Calls Try.prog 32 #[.pointer (some ⟨g, 0, none⟩), .int .i64 n] w fun e w' => e = .returned (.int .u64 (Pk.numL ((bs.drop k).take n))) ∧ Pk.RdAt w' g bs (k + n) false ∧ w.grownBy w' (some g) := Pk.num_ok h hB hm n hn h1 h8
theorem cNumF (h : Pk.RdAt w g bs k b) (hm : bs.length ≤ 1000000) {n : Int} (h1 : 1 ≤ n) (h8 : n ≤ 8) (hn : b = true ∨ (bs.length : Int) - k < n) : Calls Try.prog 32 #[.pointer (some ⟨g, 0, none⟩), .int .i64 n] w fun e w' => e = .returned (.int .u64 0) ∧ Pk.RdAt w' g bs k true ∧ w.grownBy w' (some g) := Pk.num_fail h hm n h1 h8 hn
theorem cTake (h : Pk.RdAt w g bs k false) (hm : bs.length ≤ 1000000) {n : Nat} (hn : k + n ≤ bs.length) : Calls Try.prog 35 #[.pointer (some ⟨g, 0, none⟩), .int .i64 n] w fun e w' => ∃ v, e = .returned v ∧ w'.ownsRow w.heap.size 5 1 v ((bs.drop k).take n).length (((bs.drop k).take n).flatMap byE) ∧ Pk.RdAt w' g bs (k + n) false ∧ w.grownBy w' (some g) := (Pk.take_ok h hm n hn).mono (by
  rintro _ w' ⟨v, rfl, h1, h2, h3⟩
  exact ⟨v, rfl, by rw [flat_u8s, show ((bs.drop k).take n).length = n by simp; omega]; exact h1, h2, h3⟩)
theorem cTakeF (h : Pk.RdAt w g bs k b) (hm : bs.length ≤ 1000000) {n : Int} (hn : b = true ∨ n < 0 ∨ (bs.length : Int) - k < n) : Calls Try.prog 35 #[.pointer (some ⟨g, 0, none⟩), .int .i64 n] w fun e w' => e = .returned (.slice none 0 0) ∧ Pk.RdAt w' g bs k true ∧ w.grownBy w' (some g) := Pk.take_fail h hm n hn
end
section
variable {U : Prop} {Q : Exit → Act → World → Prop} {N : Nat} {e : Env} {F : Cell → Prop} {a : Act} {w : World} {ops : Array Oper} {rest : List Oper} {o : Oper}
theorem new_on {bs : List Int} {d : Nat} {c : Bool} (sx : Nat) (h : StE U N e F a w) (hsx : e.lookup sx = some (c, .by bs)) (hc : c = true) (hw : Region.wanted o (yielded ops a.tmps) = true) (hr : CallRun Try.prog o [.tmp sx] 31) (hd : o.dst = some d) (hdN : decide (d < N) = true)
    (hQ : ∀ g a' w', Pk.RdAt w' g bs 0 false → w.heap.size ≤ g → Below w.heap.size w w' → StE U N ((d, true, .val (.pointer (some ⟨g, 0, none⟩))) :: e) (And2 F (AtB g)) a' w' → wpList Try.prog ops Q rest a' w') : wpList Try.prog ops Q (o :: rest) a w := by
  obtain ⟨A, cp, e1, h1, h2⟩ := by_in ((h.known sx _ hsx).1 hc)
  refine call_on 31 [.tmp sx] hw hr ?_
  refine (show Calls Try.prog 31 #[a.tmps.getD sx undef] w _ from by rw [e1]; exact Pk.new_any A cp bs w h1 h2).mono ?_
  rintro _ w' ⟨rfl, hr', hb⟩
  refine ⟨_, rfl, ?_⟩
  rw [hd]
  exact hQ _ _ w' hr' (Nat.le_refl _) hb (h.freshV hb (Nat.le_refl _) hr'.lt (fun _ => rd_blk hr') (by simpa using hdN))
theorem rd_on {f : FuncId} {bs : List Int} {d g k : Nat} {b : Bool} {r : Value} (A : List Operand) (h : StE U N e F a w) (hF : ∀ o, F (g, o)) (hw : Region.wanted o (yielded ops a.tmps) = true) (hr : CallRun Try.prog o A f) (hd : o.dst = some d) (hdN : decide (d < N) = true)
    (HC : Calls Try.prog f (A.map a.eval).toArray w fun e w' => e = .returned r ∧ Pk.RdAt w' g bs k b ∧ w.grownBy w' (some g))
    (hQ : ∀ a' w', Pk.RdAt w' g bs k b → w.grownBy w' (some g) → StE U N ((d, true, .val r) :: e) F a' w' → wpList Try.prog ops Q rest a' w') : wpList Try.prog ops Q (o :: rest) a w := by
  refine call_on f A hw hr (HC.mono ?_)
  rintro _ w' ⟨rfl, h1, h2⟩
  refine ⟨_, rfl, ?_⟩
  rw [hd]
  exact hQ _ w' h1 h2 ((h.wroteB h2 hF fun _ => rd_blk h1).put (Below.refl _ _) (by simpa using hdN) ⟨fun _ => rfl, fun e => by cases e⟩)
theorem rd_take {f : FuncId} {bs l : List Int} {d g k : Nat} {b : Bool} (A : List Operand) (h : StE U N e F a w) (hF : ∀ o, F (g, o)) (hw : Region.wanted o (yielded ops a.tmps) = true) (hr : CallRun Try.prog o A f) (hd : o.dst = some d) (hdN : decide (d < N) = true)
    (HC : Calls Try.prog f (A.map a.eval).toArray w fun e w' => ∃ v, e = .returned v ∧ w'.ownsRow w.heap.size 5 1 v l.length (l.flatMap byE) ∧ Pk.RdAt w' g bs k b ∧ w.grownBy w' (some g))
    (hQ : ∀ a' w', Pk.RdAt w' g bs k b → w.grownBy w' (some g) → StE U N ((d, true, .by l) :: e) F a' w' → wpList Try.prog ops Q rest a' w') : wpList Try.prog ops Q (o :: rest) a w := by
  refine call_on f A hw hr (HC.mono ?_)
  rintro _ w' ⟨v, rfl, h0, h1, h2⟩
  refine ⟨v, rfl, ?_⟩
  rw [hd]
  exact hQ _ w' h1 h2 ((h.wroteB h2 hF fun _ => rd_blk h1).put (Below.refl _ _) (by simpa using hdN) ⟨fun _ => (own_by h.fok h0).1, fun e => by cases e⟩)
end
theorem f33n {U : Prop} : Fn U Try.prog 33 [.val (.pointer none)] (.bool true) := fn1 fun w F v1 h1 hF => by
  obtain rfl : v1 = .pointer none := h1
  exact (Pk.bad_none w).mono (by rintro _ w' ⟨rfl, rfl⟩; exact ⟨_, rfl, rfl, Below.refl _ _⟩)
theorem f34n {U : Prop} : Fn U Try.prog 34 [.val (.pointer none)] (.int .i64 0) := fn1 fun w F v1 h1 hF => by
  obtain rfl : v1 = .pointer none := h1
  exact (Pk.rest_none w).mono (by rintro _ w' ⟨rfl, rfl⟩; exact ⟨_, rfl, rfl, Below.refl _ _⟩)
theorem f35n {U : Prop} : Fn U Try.prog 35 [.val (.pointer none), .int .i64 0] (.by []) := fn2 fun w F v1 v2 h1 h2 hF => by
  obtain rfl : v1 = .pointer none := h1
  obtain rfl : v2 = .int .i64 0 := h2
  exact (Pk.take_none w).mono (by rintro _ w' ⟨rfl, rfl⟩; exact ⟨_, rfl, ⟨none, 0, rfl, fun h => absurd h (by simp), Nat.le_refl _⟩, Below.refl _ _⟩)
theorem f37n {a : Lab} (hp : a.ps.length ≤ 100000) : Fn False Try.prog 37 [.by [], .st rawL a] (.by (labB a)) := f37 (by simp) hp

end Go.Proofs.Ytihddficgpjgpaa.Y
