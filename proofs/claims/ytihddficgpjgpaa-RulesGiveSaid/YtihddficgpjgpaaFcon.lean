/- The functions on labels, by what they make of what is known; the end of a law; a seed that a caller hands in. -/
import Derived.Test.YtihddficgpjgpaaFsym
import Derived.Test.YtihddficgpjgpaaFit2
import Derived.Test.YtihddficgpjgpaaHead
import Derived.Test.YtihddficgpjgpaaRturn
import Derived.Test.YtihddficgpjgpaaRwith
import Derived.Test.YtihddficgpjgpaaRleq
import Derived.Test.YtihddficgpjgpaaSame
namespace Go.Proofs.Ytihddficgpjgpaa
open Go.RowKit Go.ChangeShapes Go.WideShapes

/-- A label that is in order, of at most n pairs. -/
structure OKL (l : Lab) (n : Nat) : Prop where
  good : Good l
  len : l.ps.length ≤ n
theorem Fine.okl {l : Lab} (h : Fine l) : OKL l 12 := ⟨h.good, h.len⟩
theorem okl_join {a b : Lab} {m n : Nat} (ha : OKL a m) (hb : OKL b n) : OKL (joinL a b) (m + n) := ⟨good_join ha.good hb.good, Nat.le_trans (merge_length _ _ _) (by have := ha.len; have := hb.len; omega)⟩
theorem okl_meet {a b : Lab} {m n : Nat} (ha : OKL a m) (hb : OKL b n) : OKL (meetL a b) (m + n) := ⟨good_meet ha.good hb.good, Nat.le_trans (merge_length _ _ _) (by have := ha.len; have := hb.len; omega)⟩
theorem okl_turn {a : Lab} {m : Nat} (f t : Int) (ha : OKL a m) : OKL (turnL f t a) (m + m) := ⟨good_turn f t ha.good, Nat.le_trans (merge_length _ _ _) (by have := ha.len; omega)⟩
theorem okl_raise {a : Lab} {m : Nat} (ha : OKL a m) : OKL (raiseL a) (m + m) := okl_turn 0 5 ha
theorem okl_lower {a : Lab} {m : Nat} (ha : OKL a m) : OKL (lowerL a) (m + m) := okl_turn 5 0 ha
theorem okl_rest {a : Lab} {m : Nat} (ha : OKL a m) : OKL (restL a) (m + m) := okl_turn 0 2 ha
theorem okl_with {a : Lab} {m : Nat} (ha : OKL a m) {c : Int} (hc : 0 < c) (v : Int) : OKL (withL a c v) (m + 1) := ⟨good_with ha.good hc v, Nat.le_trans (with_length _ _ _ _) (by have := ha.len; omega)⟩
theorem okl_of (d : Int) : OKL ⟨d, []⟩ 0 := ⟨good_of d, Nat.le_refl _⟩

section
variable {w : World} {v v1 v2 v3 : Value} {a b : Lab} {m n : Nat}
theorem lab_on (h : LabV w w.heap.size v a) : (Sym.lab a).on w v := labsV_one.2 h
theorem on_lab (h : (Sym.lab a).on w v) : LabV w w.heap.size v a := labsV_one.1 h

theorem gives_lab {f : FuncId} {args : Array Value} (h : Calls Try.prog f args w fun e w' => ∃ v, e = .returned v ∧ LabV w' w'.heap.size v a ∧ Below w.heap.size w w') : Calls Try.prog f args w fun e w' => ∃ v, e = .returned v ∧ (Sym.lab a).on w' v ∧ Below w.heap.size w w' :=
  h.mono fun _ _ ⟨v, h1, h2, h3⟩ => ⟨v, h1, lab_on h2, h3⟩
theorem gives_val {f : FuncId} {args : Array Value} {x : Value} (h : Calls Try.prog f args w fun e w' => e = .returned x ∧ Below w.heap.size w w') : Calls Try.prog f args w fun e w' => ∃ v, e = .returned v ∧ (Sym.val x).on w' v ∧ Below w.heap.size w w' :=
  h.mono fun _ _ ⟨h1, h3⟩ => ⟨x, h1, rfl, h3⟩

theorem c36 (w : World) (v : Value) (h : (Sym.seed a).on w v) : Calls Try.prog 36 #[v] w fun e w' => ∃ v, e = .returned v ∧ (Sym.lab a).on w' v ∧ Below w.heap.size w w' := gives_lab (seed_any v a w h)
theorem c48 (w : World) : Calls Try.prog 48 #[] w fun e w' => ∃ v, e = .returned v ∧ (Sym.val (.bool true)).on w' v ∧ Below w.heap.size w w' := gives_val (fit02 w)
theorem c57 (ha : OKL a m) (hb : OKL b n) (hl : m + n ≤ 100000) (w : World) (v1 v2 : Value) (h1 : (Sym.lab a).on w v1) (h2 : (Sym.lab b).on w v2) : Calls Try.prog 57 #[v1, v2] w fun e w' => ∃ v, e = .returned v ∧ (Sym.val (.bool (leqB a b))).on w' v ∧ Below w.heap.size w w' := gives_val (leq_any v1 v2 a b w (on_lab h1) (on_lab h2) (by have := ha.len; have := hb.len; omega))
theorem c58 (ha : OKL a m) (hb : OKL b n) (hl : m + n ≤ 100000) (w : World) (v1 v2 : Value) (h1 : (Sym.lab a).on w v1) (h2 : (Sym.lab b).on w v2) : Calls Try.prog 58 #[v1, v2] w fun e w' => ∃ v, e = .returned v ∧ (Sym.lab (joinL a b)).on w' v ∧ Below w.heap.size w w' := gives_lab (join_any v1 v2 a b w (on_lab h1) (on_lab h2) ha.good hb.good (by have := ha.len; have := hb.len; omega))
theorem c59 (ha : OKL a m) (hb : OKL b n) (hl : m + n ≤ 100000) (w : World) (v1 v2 : Value) (h1 : (Sym.lab a).on w v1) (h2 : (Sym.lab b).on w v2) : Calls Try.prog 59 #[v1, v2] w fun e w' => ∃ v, e = .returned v ∧ (Sym.lab (meetL a b)).on w' v ∧ Below w.heap.size w w' := gives_lab (meet_any v1 v2 a b w (on_lab h1) (on_lab h2) ha.good hb.good (by have := ha.len; have := hb.len; omega))
theorem c52 (ha : OKL a m) (hl : m ≤ 100000) (w : World) (v1 v2 : Value) (h1 : (Sym.lab a).on w v1) (h2 : (Sym.lab b).on w v2) : Calls Try.prog 52 #[v1, v2] w fun e w' => ∃ v, e = .returned v ∧ (Sym.val (.bool (sameB a b))).on w' v ∧ Below w.heap.size w w' := gives_val (lsame_any v1 v2 a b w (on_lab h1) (on_lab h2) (by have := ha.len; omega))
theorem c38 (ha : OKL a m) (hl : m ≤ 100000) (w : World) (v1 v2 : Value) (h1 : (Sym.lab a).on w v1) (h2 : (Sym.lab b).on w v2) : Calls Try.prog 38 #[v1, v2] w fun e w' => ∃ v, e = .returned v ∧ (Sym.val (.bool (sameB a b))).on w' v ∧ Below w.heap.size w w' := gives_val (rsame_any v1 v2 a b w (on_lab h1) (on_lab h2) (by have := ha.len; omega))
theorem c74 (ha : OKL a m) (hl : m ≤ 50000) (w : World) (v1 : Value) (h1 : (Sym.lab a).on w v1) : Calls Try.prog 74 #[v1] w fun e w' => ∃ v, e = .returned v ∧ (Sym.lab (raiseL a)).on w' v ∧ Below w.heap.size w w' := gives_lab (raise_any v1 a w (on_lab h1) ha.good (by have := ha.len; omega))
theorem c78 (ha : OKL a m) (hl : m ≤ 50000) (w : World) (v1 : Value) (h1 : (Sym.lab a).on w v1) : Calls Try.prog 78 #[v1] w fun e w' => ∃ v, e = .returned v ∧ (Sym.lab (lowerL a)).on w' v ∧ Below w.heap.size w w' := gives_lab (lower_any v1 a w (on_lab h1) ha.good (by have := ha.len; omega))
theorem c63 (ha : OKL a m) (hl : m ≤ 50000) (w : World) (v1 : Value) (h1 : (Sym.lab a).on w v1) : Calls Try.prog 63 #[v1] w fun e w' => ∃ v, e = .returned v ∧ (Sym.lab (restL a)).on w' v ∧ Below w.heap.size w w' := gives_lab (rest_any v1 a w (on_lab h1) ha.good (by have := ha.len; omega))
theorem c76 (ha : OKL a m) (hl : m ≤ 50000) (w : World) (v1 : Value) (h1 : (Sym.lab a).on w v1) : Calls Try.prog 76 #[v1] w fun e w' => ∃ v, e = .returned v ∧ (Sym.lab (raiseL a)).on w' v ∧ Below w.heap.size w w' := gives_lab (rraise_any v1 a w (on_lab h1) ha.good (by have := ha.len; omega))
theorem c79 (ha : OKL a m) (hl : m ≤ 50000) (w : World) (v1 : Value) (h1 : (Sym.lab a).on w v1) : Calls Try.prog 79 #[v1] w fun e w' => ∃ v, e = .returned v ∧ (Sym.lab (lowerL a)).on w' v ∧ Below w.heap.size w w' := gives_lab (rlower_any v1 a w (on_lab h1) ha.good (by have := ha.len; omega))
theorem c77 (ha : OKL a m) (hl : m ≤ 50000) (w : World) (v1 : Value) (h1 : (Sym.lab a).on w v1) : Calls Try.prog 77 #[v1] w fun e w' => ∃ v, e = .returned v ∧ (Sym.lab (restL a)).on w' v ∧ Below w.heap.size w w' := gives_lab (rrest_any v1 a w (on_lab h1) ha.good (by have := ha.len; omega))
theorem c83 (ha : OKL a m) (hb : OKL b n) (hl : m + n ≤ 100000) (w : World) (v1 v2 : Value) (h1 : (Sym.lab a).on w v1) (h2 : (Sym.lab b).on w v2) : Calls Try.prog 83 #[v1, v2] w fun e w' => ∃ v, e = .returned v ∧ (Sym.val (.bool (leqB a b))).on w' v ∧ Below w.heap.size w w' := gives_val (rleq_any v1 v2 a b w (on_lab h1) (on_lab h2) ha.good hb.good (by have := ha.len; have := hb.len; omega))
theorem c49 (ha : OKL a m) (hl : m ≤ 100000) (w : World) (v1 : Value) (h1 : (Sym.lab a).on w v1) : Calls Try.prog 49 #[v1] w fun e w' => ∃ v, e = .returned v ∧ (Sym.val (.bool (rightB a))).on w' v ∧ Below w.heap.size w w' := gives_val (right_any v1 a w (on_lab h1) (by have := ha.len; omega))
theorem c60 (n : Int) (w : World) (v1 : Value) (h1 : (Sym.int n).on w v1) : Calls Try.prog 60 #[v1] w fun e w' => ∃ v, e = .returned v ∧ (Sym.lab ⟨n, []⟩).on w' v ∧ Below w.heap.size w w' := by
  obtain rfl : v1 = .int .i64 n := h1
  exact gives_lab (of_any n w)
theorem c51 (ha : OKL a m) (hl : m ≤ 100000) {c : Int} (w : World) (v1 v2 : Value) (h1 : (Sym.lab a).on w v1) (h2 : (Sym.u32 c).on w v2) : Calls Try.prog 51 #[v1, v2] w fun e w' => ∃ v, e = .returned v ∧ (Sym.int (a.lv c)).on w' v ∧ Below w.heap.size w w' := by
  obtain rfl : v2 = .int .u32 c := h2
  exact gives_val (at_any v1 a c w (on_lab h1) (by have := ha.len; omega) ha.good)
theorem c81 (ha : OKL a m) (hl : m ≤ 100000) {c : Int} (w : World) (v1 v2 : Value) (h1 : (Sym.lab a).on w v1) (h2 : (Sym.u32 c).on w v2) : Calls Try.prog 81 #[v1, v2] w fun e w' => ∃ v, e = .returned v ∧ (Sym.int (a.lv c)).on w' v ∧ Below w.heap.size w w' := by
  obtain rfl : v2 = .int .u32 c := h2
  exact gives_val (rat_any v1 a c w (on_lab h1) (by have := ha.len; omega))
theorem c50 (ha : OKL a m) (hl : m ≤ 100000) {c x : Int} (w : World) (v1 v2 v3 : Value) (h1 : (Sym.lab a).on w v1) (h2 : (Sym.u32 c).on w v2) (h3 : (Sym.int x).on w v3) : Calls Try.prog 50 #[v1, v2, v3] w fun e w' => ∃ v, e = .returned v ∧ (Sym.lab (withL a c x)).on w' v ∧ Below w.heap.size w w' := by
  obtain rfl : v2 = .int .u32 c := h2
  obtain rfl : v3 = .int .i64 x := h3
  exact gives_lab (with_any v1 a c x w (on_lab h1) (by have := ha.len; omega) ha.good)
theorem c82 (ha : OKL a m) (hl : m ≤ 10000) {c x : Int} (hc : 0 < c) (w : World) (v1 v2 v3 : Value) (h1 : (Sym.lab a).on w v1) (h2 : (Sym.u32 c).on w v2) (h3 : (Sym.int x).on w v3) : Calls Try.prog 82 #[v1, v2, v3] w fun e w' => ∃ v, e = .returned v ∧ (Sym.lab (withL a c x)).on w' v ∧ Below w.heap.size w w' := by
  obtain rfl : v2 = .int .u32 c := h2
  obtain rfl : v3 = .int .i64 x := h3
  exact gives_lab (rwith_any v1 a c x w (on_lab h1) ha.good hc (by have := ha.len; omega))
end

/-- A law ends. -/
theorem law_ret {N : Nat} {K : Nat → Bool × Sym} {D : List Nat} {a : Act} {w W : World} {fn : Func} {b : Bool} (h : St N K D a w) (s : Nat) (hres : fn.results = #[.tmp s]) (hs : D.contains s = true) (hK : K s = (true, .bool b)) (hb : b = true) (hW : Below W.heap.size W w) :
    Code.ret.wp Try.prog (bodyPost Try.prog fn fun e w' => e = .returned (.bool true) ∧ Below W.heap.size W w') a w := by
  subst hb
  refine wp_ret (bodyPost_ret (results_tmp hres _ _ _) h.defers ?_)
  have := h.get s hs hK
  exact ⟨by rw [show a.tmps.getD s undef = .bool true from this], hW⟩

section
variable {H : Type} {enc : TypeId × Value → H} {w : World} {base : Nat} {fuel : Nat} {d : DataW H} {ps : List MemPlace}
set_option maxRecDepth 100000 in
/-- The cells of a seed. -/
theorem open_seedC {cs : List Value} {B : Nat} (h : DataW.trod enc Try.prog w 0 (fun _ => true) true fuel 36 cs = some (d, ps)) (hlt : ∀ p ∈ ps, p.block < B) : ∃ v0 v1, cs = [v0, v1] ∧ ∃ l, SeedV w B (.agg #[v0, v1]) l := by
  obtain ⟨y0, y1, n, hx, hl, h0, h1⟩ := trod_struct2 Try.underlying36 h
  simp only [Prod.mk.injEq] at hx
  have hl2 : cs.length = 2 := hl.trans (by kernel_rfl)
  match cs, hl2 with
  | [v0, v1], _ =>
    refine ⟨v0, v1, rfl, ?_⟩
    have c3 : Try.prog.cellsOf 3 = 1 := by kernel_rfl
    have c34 : Try.prog.cellsOf 34 = 1 := by kernel_rfl
    simp only [c3, c34, List.drop_zero, List.drop_succ_cons, List.take_succ_cons, List.take_zero] at h0 h1
    obtain ⟨D, e0, _, _⟩ := DataW.trod_int Try.underlying3 h0
    simp only [List.cons.injEq, and_true] at e0
    subst e0
    obtain ⟨A, L, c, e1, hm, hr⟩ := open_sliceR (R := IntR .i64) (B := B) Try.underlying34 c3 (by omega) (fun _ _ _ _ h _ => open_intR Try.underlying3 h) h1 (fun p hp => hlt p (by rw [hx.2]; exact List.mem_append_right _ hp))
    simp only [List.cons.injEq, and_true] at e1
    subst e1
    exact ⟨seedL D L, D, L, A, c, rfl, rfl, (intsAt_of hr).1, Nat.le_trans hm (by unfold maxLen; omega)⟩
set_option maxRecDepth 100000 in
/-- A seed that a caller hands in. -/
theorem open_seedV {r : Reach} {v : Value} (hv : Value.okWide Try.prog w r base 36 v) (h : DataW.Trod enc Try.prog w 0 (fun _ => true) true 36 v d ps) (hlt : ∀ p ∈ ps, p.block < w.heap.size) : ∃ l, SeedV w w.heap.size v l := by
  obtain ⟨cs, rfl, hsz⟩ := okWide_struct Try.underlying36 hv
  obtain ⟨fuel, hf⟩ := h
  obtain ⟨v0, v1, e, l, hl⟩ := open_seedC hf hlt
  have : cs = #[v0, v1] := by
    apply Array.toList_inj.1
    simpa [Value.cells] using e
  subst this
  exact ⟨l, hl⟩
end

def look (ov : List (Nat × Bool × Sym)) (tbl : List (Bool × Sym)) (s : Nat) : Bool × Sym := (ov.lookup s).getD (tbl.getD s (true, .any))
def KnowsAll (K : Nat → Bool × Sym) (a : Act) (w : World) : List Nat → Prop
  | [] => True
  | s :: t => (∃ y, K s = (true, y) ∧ y.on w (a.tmps.getD s undef)) ∧ KnowsAll K a w t
theorem knowsAll_at {K : Nat → Bool × Sym} {a : Act} {w : World} : ∀ {l : List Nat}, KnowsAll K a w l → ∀ s ∈ l, Known K a w s
  | _ :: _, h, s, hs => by
    rcases List.mem_cons.1 hs with rfl | hs
    · obtain ⟨y, h1, h2⟩ := h.1
      unfold Known
      rw [h1]
      exact ⟨fun _ => h2, (fun e => by cases e)⟩
    · exact knowsAll_at h.2 s hs
theorem st_of {N : Nat} {K : Nat → Bool × Sym} {D : List Nat} {a : Act} {w : World} (h1 : a.tmps.size = N) (h2 : a.defers = []) (h3 : KnowsAll K a w D) : St N K D a w := ⟨h1, h2, knowsAll_at h3⟩
theorem St.sub {N : Nat} {K : Nat → Bool × Sym} {D D' : List Nat} {a : Act} {w : World} (h : St N K D a w) (hD : D'.all D.contains = true) : St N K D' a w := ⟨h.size, h.defers, fun s hs => h.known s (by simpa using List.all_eq_true.1 hD s hs)⟩
/-- The condition of a branch. -/
theorem St.cond {N : Nat} {K : Nat → Bool × Sym} {D : List Nat} {a : Act} {w : World} {b : Bool} {x y : Code} {Q : Exit → Act → World → Prop} (h : St N K D a w) (s : Nat) (hs : D.contains s = true) (hK : K s = (true, .bool b))
    (ht : b = true → x.wp Try.prog Q a w) (hf : b = false → y.wp Try.prog Q a w) : (Code.cond (.tmp s) x y).wp Try.prog Q a w := by
  refine wp_cond (t := b) (h.get s hs hK) ?_
  cases b with
  | true => exact ht rfl
  | false => exact hf rfl
end Go.Proofs.Ytihddficgpjgpaa
