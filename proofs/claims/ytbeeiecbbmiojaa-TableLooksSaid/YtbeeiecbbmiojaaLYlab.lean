/- Ylab: the laws of labels, in this seat's numbers. -/
import Derived.Test.YtbeeiecbbmiojaaYown
import Derived.Test.YtbeeiecbbmiojaaLMFlow
namespace Go.Proofs.Ytbeeiecbbmiojaa.Y.Lb
open Go.Proofs.Ytbeeiecbbmiojaa.Lb
open Go.RowKit
def pairL : Lay (Int × Int) := (Lay.int .u32).pr (Lay.int .i64)
def rawL : Lay Lab := ((Lay.int .i64).pr (Lay.sl pairL)).via fun l => (l.d, l.ps)
/-- A label in order, of at most n pairs. -/
def labL (n : Nat) : Lay Lab := ⟨2, fun w F cs l => rawL.on w F cs l ∧ OKL l n, fun h => rawL.len h.1, fun h => rawL.one h.1, fun h hk hF => ⟨rawL.mono h.1 hk hF, h.2⟩⟩
abbrev _root_.Go.Proofs.Ytbeeiecbbmiojaa.Y.Sym.lb (l : Lab) (n : Nat) : Sym := .st (labL n) l
theorem raw_in {l : Lab} {w : World} {F : Cell → Prop} {v : Value} (h : (Sym.st rawL l).on w F v) : LabV w w.heap.size v l := by
  obtain ⟨cs, rfl, c1, c2, rfl, h1, A, c, h2, h3, h4⟩ := h
  obtain rfl : c1 = [.int .i64 l.d] := h1
  subst h2
  refine ⟨A, c, rfl, fun hl => ?_, h4⟩
  obtain ⟨b, off, e, hb, hc⟩ := h3 hl
  refine ⟨b, off, e, hb, fun k hk => ?_⟩
  obtain ⟨cs, ⟨d1, d2, rfl, e1, e2⟩, h5⟩ := hc k hk
  obtain rfl : d1 = [.int .u32 l.ps[k].1] := e1
  obtain rfl : d2 = [.int .i64 l.ps[k].2] := e2
  exact ⟨(h5 0 (by simp)).2, (h5 1 (by simp)).2⟩
theorem raw_out {l : Lab} {w : World} {F : Cell → Prop} {v : Value} (h : LabV w w.heap.size v l) (hF : FOK True F w) : (Sym.st rawL l).on w F v := by
  obtain ⟨A, c, rfl, h1, h2⟩ := h
  refine ⟨[.int .i64 l.d, .slice A l.ps.length c], rfl, [.int .i64 l.d], [.slice A l.ps.length c], rfl, rfl, A, c, rfl, fun hl => ?_, h2⟩
  obtain ⟨b, off, e, hb, hc⟩ := h1 hl
  refine ⟨b, off, e, hb, fun k hk => ⟨[.int .u32 l.ps[k].1, .int .i64 l.ps[k].2], ⟨[_], [_], rfl, rfl, rfl⟩, fun j hj => ⟨fun hf => hF.nou True.intro _ hf _ _ (hc 0 hl).1, ?_⟩⟩⟩
  obtain ⟨e1, e2⟩ := hc k hk
  rcases j with _ | _ | j
  · exact e1
  · exact e2
  · simp at hj; omega
theorem lab_in {l : Lab} {n : Nat} {w : World} {F : Cell → Prop} {v : Value} (h : (Sym.lb l n).on w F v) : LabV w w.heap.size v l ∧ OKL l n := by
  obtain ⟨cs, rfl, h1, h2⟩ := h
  exact ⟨raw_in ⟨cs, rfl, h1⟩, h2⟩
theorem lab_out {l : Lab} {n : Nat} {w : World} {F : Cell → Prop} {v : Value} (h : LabV w w.heap.size v l) (ho : OKL l n) (hF : FOK True F w) : (Sym.lb l n).on w F v := by
  obtain ⟨cs, e, h1⟩ := raw_out h hF
  exact ⟨cs, e, h1, ho⟩
section
variable {U : Prop} {f : FuncId} {y y1 y2 y3 y4 : Sym}
theorem gives_lab {vs : Array Value} {l : Lab} {n : Nat} {w : World} {F : Cell → Prop} (hF : FOK True F w) (ho : OKL l n) (h : Calls Try.prog f vs w fun e w' => ∃ v, e = .returned v ∧ LabV w' w'.heap.size v l ∧ Below w.heap.size w w') : Calls Try.prog f vs w fun e w' => ∃ v, e = .returned v ∧ (Sym.lb l n).on w' F v ∧ Below w.heap.size w w' :=
  h.mono fun _ _ ⟨v, h1, h2, h3⟩ => ⟨v, h1, lab_out h2 ho (hF.below h3), h3⟩
theorem gives_val {vs : Array Value} {x : Value} {w : World} {F : Cell → Prop} (h : Calls Try.prog f vs w fun e w' => e = .returned x ∧ Below w.heap.size w w') : Calls Try.prog f vs w fun e w' => ∃ v, e = .returned v ∧ (Sym.val x).on w' F v ∧ Below w.heap.size w w' :=
  h.mono fun _ _ ⟨h1, h3⟩ => ⟨x, h1, rfl, h3⟩
end
section
variable {U : Prop} {a b : Lab} {m n : Nat}
theorem f52 (hl : m ≤ 100000) : Fn U Try.prog 31 [.lb a m, .lb b n] (.bool (sameB a b)) := fn2 fun w F v1 v2 h1 h2 _ => gives_val (lsame_any v1 v2 a b w (lab_in h1).1 (lab_in h2).1 (by have := (lab_in h1).2.len; omega))
theorem f63 (hl : m ≤ 50000) : Fn True Try.prog 30 [.lb a m] (.lb (restL a) (m + m)) := fn1 fun w F v1 h1 hF => gives_lab hF (okl_rest (lab_in h1).2) (rest_any v1 a w (lab_in h1).1 (lab_in h1).2.good (by have := (lab_in h1).2.len; omega))
theorem f60 {d : Int} : Fn True Try.prog 28 [.int .i64 d] (.lb ⟨d, []⟩ 0) := fn1 fun w F v1 h1 hF => by
  obtain rfl : v1 = .int .i64 d := h1
  exact gives_lab hF (okl_of d) (of_any d w)
theorem f50 (hl : m ≤ 100000) {c x : Int} (hc : 0 < c) : Fn True Try.prog 29 [.lb a m, .int .u32 c, .int .i64 x] (.lb (withL a c x) (m + 1)) := fn3 fun w F v1 v2 v3 h1 h2 h3 hF => by
  obtain rfl : v2 = .int .u32 c := h2
  obtain rfl : v3 = .int .i64 x := h3
  exact gives_lab hF (okl_with (lab_in h1).2 hc x) (with_any v1 a c x w (lab_in h1).1 (by have := (lab_in h1).2.len; omega) (lab_in h1).2.good)
end
end Go.Proofs.Ytbeeiecbbmiojaa.Y.Lb
