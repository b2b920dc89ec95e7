/- Labels and seeds as things in memory; the functions on labels by what they make of them. -/
import Derived.Test.YtihddficgpjgpaaZYown
import Derived.Test.YtihddficgpjgpaaZMFlow
namespace Go.Proofs.Ytihddficgpjgpaa.Y
open Go.RowKit
def pairL : Lay (Int × Int) := (Lay.int .u32).pr (Lay.int .i64)
def rawL : Lay Lab := ((Lay.int .i64).pr (Lay.sl pairL)).via fun l => (l.d, l.ps)
/-- A label in order, of at most n pairs. -/
def labL (n : Nat) : Lay Lab := ⟨2, fun w F cs l => rawL.on w F cs l ∧ OKL l n, fun h => rawL.len h.1, fun h => rawL.one h.1, fun h hk hF => ⟨rawL.mono h.1 hk hF, h.2⟩⟩
/-- A seed, by its label. -/
def seedL0 : Lay (Int × List Int) := (Lay.int .i64).pr (Lay.sl (Lay.int .i64))
def sdL : Lay Lab := ⟨2, fun w F cs l => ∃ D L, l = seedL D L ∧ L.length ≤ 9223372036854775807 ∧ seedL0.on w F cs (D, L), by rintro _ _ _ _ ⟨D, L, _, _, h⟩; exact seedL0.len h, by rintro _ _ _ _ ⟨D, L, _, _, h⟩; exact seedL0.one h, by rintro _ _ _ _ _ _ ⟨D, L, e, h0, h⟩ hk hF; exact ⟨D, L, e, h0, seedL0.mono h hk hF⟩⟩
abbrev Sym.lb (l : Lab) (n : Nat) : Sym := .st (labL n) l
theorem raw_in {l : Lab} {w : World} {F : Cell → Prop} {v : Value} (h : (Sym.st rawL l).on w F v) : LabV w w.heap.size v l := by
  obtain ⟨cs, rfl, c1, c2, rfl, h1, A, c, h2, h3, h4⟩ := h
  obtain rfl : c1 = [.int .i64 l.d] := h1
  subst h2
  refine ⟨A, c, rfl, fun hl => ?_, h4⟩
  obtain ⟨b, off, e, hb, hc⟩ := h3 hl
  refine ⟨b, off, e, hb, fun k hk => ?_⟩
  obtain ⟨cs, ⟨d1, d2, rfl, e1, e2⟩, h5⟩ := hc k hk
  obtain rfl : d1 = [.int .u32 l.ps[k].1] := e1
  obtain rfl : d2 = [.int .i64 l.ps[k].2] := e2
  exact ⟨(h5 0 (by simp)).2, (h5 1 (by simp)).2⟩
theorem raw_out {l : Lab} {w : World} {F : Cell → Prop} {v : Value} (h : LabV w w.heap.size v l) (hF : FOK True F w) : (Sym.st rawL l).on w F v := by
  obtain ⟨A, c, rfl, h1, h2⟩ := h
  refine ⟨[.int .i64 l.d, .slice A l.ps.length c], rfl, [.int .i64 l.d], [.slice A l.ps.length c], rfl, rfl, A, c, rfl, fun hl => ?_, h2⟩
  obtain ⟨b, off, e, hb, hc⟩ := h1 hl
  refine ⟨b, off, e, hb, fun k hk => ⟨[.int .u32 l.ps[k].1, .int .i64 l.ps[k].2], ⟨[_], [_], rfl, rfl, rfl⟩, fun j hj => ⟨fun hf => hF.nou True.intro _ hf _ _ (hc 0 hl).1, ?_⟩⟩⟩
  obtain ⟨e1, e2⟩ := hc k hk
  rcases j with _ | _ | j
  · exact e1
  · exact e2
  · simp at hj; omega
theorem lab_in {l : Lab} {n : Nat} {w : World} {F : Cell → Prop} {v : Value} (h : (Sym.lb l n).on w F v) : LabV w w.heap.size v l ∧ OKL l n := by
  obtain ⟨cs, rfl, h1, h2⟩ := h
  exact ⟨raw_in ⟨cs, rfl, h1⟩, h2⟩
theorem lab_out {l : Lab} {n : Nat} {w : World} {F : Cell → Prop} {v : Value} (h : LabV w w.heap.size v l) (ho : OKL l n) (hF : FOK True F w) : (Sym.lb l n).on w F v := by
  obtain ⟨cs, e, h1⟩ := raw_out h hF
  exact ⟨cs, e, h1, ho⟩
theorem seed_in {l : Lab} {w : World} {F : Cell → Prop} {v : Value} (h : (Sym.st sdL l).on w F v) : SeedV w w.heap.size v l := by
  obtain ⟨cs, rfl, D, L, e, h0, c1, c2, rfl, h1, A, c, h2, h3, h4⟩ := h
  obtain rfl : c1 = [.int .i64 D] := h1
  subst h2
  refine ⟨D, L, A, c, e, rfl, fun hl => ?_, h0⟩
  obtain ⟨b, off, e', hb, hc⟩ := h3 hl
  refine ⟨b, off, e', hb, fun k hk => ?_⟩
  obtain ⟨cs, h5, h6⟩ := hc k hk
  obtain rfl : cs = [.int .i64 L[k]] := h5
  have := (h6 0 (by simp)).2
  simpa [Lay.int] using this
theorem seed_fine {l : Lab} {w : World} {F : Cell → Prop} {v : Value} (h : (Sym.st sdL l).on w F v) : Fine l := (seed_in h).fine
section
variable {U : Prop} {f : FuncId} {y y1 y2 y3 y4 : Sym}
theorem gives_lab {vs : Array Value} {l : Lab} {n : Nat} {w : World} {F : Cell → Prop} (hF : FOK True F w) (ho : OKL l n) (h : Calls Try.prog f vs w fun e w' => ∃ v, e = .returned v ∧ LabV w' w'.heap.size v l ∧ Below w.heap.size w w') : Calls Try.prog f vs w fun e w' => ∃ v, e = .returned v ∧ (Sym.lb l n).on w' F v ∧ Below w.heap.size w w' :=
  h.mono fun _ _ ⟨v, h1, h2, h3⟩ => ⟨v, h1, lab_out h2 ho (hF.below h3), h3⟩
theorem gives_val {vs : Array Value} {x : Value} {w : World} {F : Cell → Prop} (h : Calls Try.prog f vs w fun e w' => e = .returned x ∧ Below w.heap.size w w') : Calls Try.prog f vs w fun e w' => ∃ v, e = .returned v ∧ (Sym.val x).on w' F v ∧ Below w.heap.size w w' :=
  h.mono fun _ _ ⟨h1, h3⟩ => ⟨x, h1, rfl, h3⟩
end
section
variable {U : Prop} {a b : Lab} {m n : Nat}
theorem f36 : Fn True Try.prog 36 [.st sdL a] (.lb a 12) := fn1 fun w _ v h hF => gives_lab hF (seed_fine h).okl (seed_any v a w (seed_in h))
theorem f57 (hl : m + n ≤ 100000) : Fn U Try.prog 57 [.lb a m, .lb b n] (.bool (leqB a b)) := fn2 fun w _ v1 v2 h1 h2 _ => gives_val (leq_any v1 v2 a b w (lab_in h1).1 (lab_in h2).1 (by have := (lab_in h1).2.len; have := (lab_in h2).2.len; omega))
theorem f83 (hl : m + n ≤ 100000) : Fn U Try.prog 83 [.lb a m, .lb b n] (.bool (leqB a b)) := fn2 fun w F v1 v2 h1 h2 _ => gives_val (rleq_any v1 v2 a b w (lab_in h1).1 (lab_in h2).1 (lab_in h1).2.good (lab_in h2).2.good (by have := (lab_in h1).2.len; have := (lab_in h2).2.len; omega))
theorem f52 (hl : m ≤ 100000) : Fn U Try.prog 52 [.lb a m, .lb b n] (.bool (sameB a b)) := fn2 fun w F v1 v2 h1 h2 _ => gives_val (lsame_any v1 v2 a b w (lab_in h1).1 (lab_in h2).1 (by have := (lab_in h1).2.len; omega))
theorem f38 (hl : m ≤ 100000) : Fn U Try.prog 38 [.lb a m, .lb b n] (.bool (sameB a b)) := fn2 fun w F v1 v2 h1 h2 _ => gives_val (rsame_any v1 v2 a b w (lab_in h1).1 (lab_in h2).1 (by have := (lab_in h1).2.len; omega))
theorem f74 (hl : m ≤ 50000) : Fn True Try.prog 74 [.lb a m] (.lb (raiseL a) (m + m)) := fn1 fun w F v1 h1 hF => gives_lab hF (okl_raise (lab_in h1).2) (raise_any v1 a w (lab_in h1).1 (lab_in h1).2.good (by have := (lab_in h1).2.len; omega))
theorem f63 (hl : m ≤ 50000) : Fn True Try.prog 63 [.lb a m] (.lb (restL a) (m + m)) := fn1 fun w F v1 h1 hF => gives_lab hF (okl_rest (lab_in h1).2) (rest_any v1 a w (lab_in h1).1 (lab_in h1).2.good (by have := (lab_in h1).2.len; omega))
theorem f76 (hl : m ≤ 50000) : Fn True Try.prog 76 [.lb a m] (.lb (raiseL a) (m + m)) := fn1 fun w F v1 h1 hF => gives_lab hF (okl_raise (lab_in h1).2) (rraise_any v1 a w (lab_in h1).1 (lab_in h1).2.good (by have := (lab_in h1).2.len; omega))
theorem f77 (hl : m ≤ 50000) : Fn True Try.prog 77 [.lb a m] (.lb (restL a) (m + m)) := fn1 fun w F v1 h1 hF => gives_lab hF (okl_rest (lab_in h1).2) (rrest_any v1 a w (lab_in h1).1 (lab_in h1).2.good (by have := (lab_in h1).2.len; omega))
theorem f49 (hl : m ≤ 100000) : Fn U Try.prog 49 [.lb a m] (.bool (rightB a)) := fn1 fun w F v1 h1 _ => gives_val (right_any v1 a w (lab_in h1).1 (by have := (lab_in h1).2.len; omega))
theorem f60 {d : Int} : Fn True Try.prog 60 [.int .i64 d] (.lb ⟨d, []⟩ 0) := fn1 fun w F v1 h1 hF => by
  obtain rfl : v1 = .int .i64 d := h1
  exact gives_lab hF (okl_of d) (of_any d w)
theorem u32s_out {l : List Int} {w : World} {v : Value} {F : Cell → Prop} (h : w.ownsRow 0 70 1 v l.length (u32s l)) (hF : FOK True F w) : (Sym.one (Lay.sl (Lay.int .u32)) l).on w F v := by
  obtain ⟨A, c, rfl⟩ := own_slice h
  refine ⟨A, c, rfl, fun hl => ?_, own_cap h⟩
  obtain ⟨g, cur, rfl, hb, hB, h1, h2, h3, h4⟩ := own_blk h hl
  have cell : ∀ i (hi : i < l.length), w.cell? ⟨g, i, none⟩ = some (.int .u32 l[i]) := fun i hi => by
    have e : (u32s l)[i]? = some (.int .u32 l[i]) := by simp [u32s, hi]
    rw [← h4, List.getElem?_take, if_pos (by omega)] at e
    refine (hB.cell _).trans ?_
    rw [← e]; simp
  refine ⟨g, 0, rfl, hB.lt, fun i hi => ⟨[.int .u32 l[i]], rfl, fun j hj => ⟨fun hf => hF.nou True.intro _ hf _ _ (cell 0 hl), ?_⟩⟩⟩
  obtain rfl : j = 0 := by simp at hj; omega
  simpa [Lay.int] using cell i hi
theorem f56 (hl : m ≤ 100000) : Fn True Try.prog 56 [.lb a m] (.one (Lay.sl (Lay.int .u32)) (ownsL a)) := fn1 fun w F v1 h1 hF =>
  (owns_any v1 a w (lab_in h1).1 (by have := (lab_in h1).2.len; omega)).mono fun _ _ ⟨v, e1, e2, e3⟩ => ⟨v, e1, u32s_out (own_mono e2 (Nat.zero_le _)) (hF.below e3), e3⟩
theorem f80 (hl : m ≤ 100000) : Fn True Try.prog 80 [.lb a m] (.one (Lay.sl (Lay.int .u32)) (ownsL a)) := fn1 fun w F v1 h1 hF =>
  (rowns_any v1 a w (lab_in h1).1 (by have := (lab_in h1).2.len; omega)).mono fun _ _ ⟨v, e1, e2, e3⟩ => ⟨v, e1, u32s_out (own_mono e2 (Nat.zero_le _)) (hF.below e3), e3⟩
end
end Go.Proofs.Ytihddficgpjgpaa.Y
