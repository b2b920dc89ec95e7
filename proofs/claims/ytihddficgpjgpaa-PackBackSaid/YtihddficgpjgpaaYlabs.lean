/- Ylabs: so many labels out of bytes: what they are -/
import Derived.Test.YtihddficgpjgpaaYlabw
import Derived.Test.YtihddficgpjgpaaYmath5
namespace Go.Proofs.Ytihddficgpjgpaa.Y
open Go.RowKit Go.ChangeShapes Go.WideShapes Go.ChangeAt

section
variable {d : Nat} {t : TypeId} {p : String} {af : Array Edge} {g : Option (Nat × Bool)} {x x2 : Operand}
theorem ln_46 : LenRun Try.prog ⟨some d, .call { callee := .builtin .len, args := #[x], argTypes := #[46] }, t, p, af, g⟩ x := fun ev w A len cap h1 => by go_simp
theorem ix_46 : IndexRun Try.prog ⟨some d, .indexAddr 46 x x2, t, p, af, g⟩ x x2 2 := fun ev w b off len cap i h1 h2 h3 => by
  have hd : decide ((0 : Int) ≤ i) = true := by simp
  have hd2 : decide ((i : Int) < len) = true := by simp; omega
  go_simp
theorem bs_46 : BsRun Try.prog ⟨some d, .buildSlice 46 1 #[(0, x)], t, p, af, g⟩ x 2 39 := fun ev w cs h1 h2 => by
  obtain ⟨cs⟩ := cs
  match cs, h2 with
  | [a, b], _ => go_simp
theorem ne_3 {a b : Int} : Run2 Try.prog ⟨some d, .binOp .neq 3 x x2 3, t, p, af, g⟩ x x2 (.int .i64 a) (.int .i64 b) (.bool (a != b)) := fun ev w h1 h2 => by go_simp
end
theorem Try.info39s : (Try.prog.info? 39).map (fun i => (i.zero, i.size, i.bytes)) = some (some (.agg #[.int .i64 0, .slice none 0 0]), 2, 32) := by kernel_rfl
theorem Try.underlying46 : Try.prog.underlying 46 = some (.slice 39) := by kernel_rfl
/-- The end: two values in slots. -/
theorem ret_tmp2 {U : Prop} {P : Program} {N : Nat} {e : Env} {F : Cell → Prop} {a : Act} {w : World} {fn : Func} {W : World} {F0 : Cell → Prop} {y1 y2 : Sym} (h : StE U N e F a w) (s t : Nat) (hr : fn.results = #[.tmp s, .tmp t]) (hs : e.lookup s = some (true, y1)) (ht : e.lookup t = some (true, y2)) (hF : ∀ k : Cell, F0 k → F k) (hW : Below W.heap.size W w) :
    bodyPost P fn (fun e w' => ∃ v, e = .returned v ∧ (Sym.two y1 y2).on w' F0 v ∧ Below W.heap.size W w') .ret a w := by
  refine (bodyPost_ret (v := .tuple #[a.tmps.getD s undef, a.tmps.getD t undef]) ?_ h.defers ⟨_, rfl, ⟨_, _, rfl, y1.mono (h.get s hs) (.refl _ _) fun k _ hk => hF k hk, y2.mono (h.get t ht) (.refl _ _) fun k _ hk => hF k hk⟩, hW⟩)
  simp [results, hr]
theorem nil_one {α : Type} {L : Lay α} {w : World} {F : Cell → Prop} {v : Value} (h : v = .slice none 0 0) : (Sym.one (Lay.sl L) ([] : List α)).on w F v := ⟨none, 0, by rw [h]; rfl, fun h => absurd h (by simp), Nat.le_refl _⟩
/-- So many labels, one behind the other. -/
def labsP (bs : List Int) : Nat → Nat × Bool → List Lab → List Lab × (Nat × Bool)
  | 0, s, acc => (acc, s)
  | m + 1, s, acc => labsP bs m (labX bs s).2 (acc ++ [(labX bs s).1])
def labsE (bs : List Int) (n : Nat) : List Lab × (Nat × Bool) := labsP bs (min n (bs.length + 1)) (0, false) []
def labsV (bs : List Int) (n : Nat) : List Lab × Int := if (labsE bs n).2.2 = true ∨ (labsE bs n).2.1 < bs.length ∨ (labsE bs n).1.length ≠ n then ([], 10) else ((labsE bs n).1, 0)
abbrev qE (p : Value × Lab) : List Value := [.int .i64 p.2.d, p.1]
structure LabsAt (w : World) (B : Nat) (v : Value) (q : List (Value × Lab)) : Prop where
  own : w.ownsRow B 39 2 v q.length (q.flatMap qE)
  els : ∀ p ∈ q, w.ownsRow B 90 2 p.1 p.2.ps.length (p.2.ps.flatMap prE)
theorem own_ne3 {w : World} {B B' n n' size size' : Nat} {e e' : TypeId} {v v' : Value} {xs xs' : List Value} (h : w.ownsRow B e size v n xs) (h' : w.ownsRow B' e' size' v' n' xs') (hne : e' ≠ e) : v.ownBlock = none ∨ v.ownBlock ≠ v'.ownBlock := by
  cases hv : v.ownBlock with
  | none => exact .inl rfl
  | some g =>
    obtain ⟨_, cs, hb⟩ := own_row_blk h hv
    exact .inr (own_ne h' hb hne)
theorem LabsAt.nil (w : World) (B : Nat) : LabsAt w B (.slice none 0 0) [] := ⟨World.ownsRow_nil _ _ _ _, fun _ h => by cases h⟩
theorem LabsAt.below {w w' : World} {B : Nat} {v : Value} {q : List (Value × Lab)} (h : LabsAt w B v q) (hb : Below w.heap.size w w') : LabsAt w' B v q := ⟨own_below h.own hb, fun p hp => own_below (h.els p hp) hb⟩
theorem LabsAt.grown {w w' : World} {B g : Nat} {v : Value} {q : List (Value × Lab)} (h : LabsAt w B v q) (hg : w.grownBy w' (some g)) (hlt : g < B) : LabsAt w' B v q := ⟨own_grown h.own hg hlt, fun p hp => own_grown (h.els p hp) hg hlt⟩
theorem LabsAt.app {w w' : World} {B : Nat} {v v' u : Value} {l : Lab} {q : List (Value × Lab)} (h : LabsAt w B v q) (hu : w.ownsRow B 90 2 u l.ps.length (l.ps.flatMap prE)) (ho : w'.ownsRow B 39 2 v' (q.length + 1) (q.flatMap qE ++ [.int .i64 l.d, u])) (hg : w.grownBy w' v.ownBlock) : LabsAt w' B v' (q ++ [(u, l)]) :=
  ⟨by rw [List.length_append, List.flatMap_append]; exact ho, fun p hp => by
    rcases List.mem_append.1 hp with hp | hp
    · exact (h.els p hp).kept hg (own_ne3 (h.els p hp) h.own (by decide))
    · obtain rfl := List.mem_singleton.1 hp
      exact hu.kept hg (own_ne3 hu h.own (by decide))⟩
theorem raw_of_ownF {w : World} {F : Cell → Prop} {B : Nat} {v : Value} {d : Int} {ps : List (Int × Int)} (h : w.ownsRow B 90 2 v ps.length (ps.flatMap prE)) (hF : ∀ k : Cell, F k → k.1 < B) : rawL.on w F [.int .i64 d, v] ⟨d, ps⟩ := by
  obtain ⟨A, c, e1, e2, e3⟩ := sl_of_own prF h (F := F) fun x o hx _ hf => by
    have h1 := own_base h hx
    have h2 := hF (x, o) hf
    simp only at h2
    omega
  simp only [List.cons.injEq, and_true] at e1
  exact ⟨[.int .i64 d], [v], rfl, rfl, A, c, by rw [e1], e2, e3⟩
theorem flat_at2 {α : Type} {f : α → List Value} (hl : ∀ x, (f x).length = 2) : ∀ (l : List α) (i : Nat) (hi : i < l.length) (j : Nat) (hj : j < (f l[i]).length), (l.flatMap f)[i * 2 + j]? = some (f l[i])[j]
  | x :: t, 0, _, j, hj => by
    rw [List.flatMap_cons, List.getElem?_append_left (by simpa using hj)]
    simp at hj ⊢
  | x :: t, i + 1, hi, j, hj => by
    have h1 := hl x
    rw [List.flatMap_cons, List.getElem?_append_right (by rw [Nat.succ_mul]; omega), h1, show (i + 1) * 2 + j - 2 = i * 2 + j by rw [Nat.succ_mul]; omega]
    simpa using flat_at2 hl t i (by simpa using hi) j (by simpa using hj)
theorem LabsAt.on {w : World} {F : Cell → Prop} {B : Nat} {v : Value} {q : List (Value × Lab)} (h : LabsAt w B v q) (hF : ∀ k : Cell, F k → k.1 < B) : (Sym.one (Lay.sl rawL) (q.map (·.2))).on w F v := by
  rcases h.own.2 with ⟨rfl, h0⟩ | ⟨g, c, cur, rfl, hB, hg, hnc, _, hs, ht⟩
  · obtain rfl := List.eq_nil_of_length_eq_zero h0
    exact ⟨none, 0, rfl, fun h => absurd h (by simp), Nat.le_refl _⟩
  · refine ⟨some ⟨g, 0, none⟩, c, by rw [List.length_map], fun hl => ⟨g, 0, rfl, Blk.lt (g := g) (cs := cur) (t := 39) hg, fun i hi => ?_⟩, by rw [List.length_map]; exact hnc⟩
    have hi' : i < q.length := by simpa using hi
    have e1 : (q.map (·.2))[i] = q[i].2 := by simp
    refine ⟨qE q[i], by rw [e1]; exact raw_of_ownF (h.els _ (List.getElem_mem hi')) hF, fun j hj => ?_⟩
    have hj2 : j < 2 := hj
    rw [Nat.zero_add]
    refine ⟨fun hf => by have := hF _ hf; simp only at this; omega, ?_⟩
    have h6 := flat_at2 (f := qE) (fun _ => rfl) q i hi' j hj
    have hlt : i * 2 + j < q.length * 2 := by omega
    rw [← ht, List.getElem?_take, if_pos hlt] at h6
    show w.cell? ⟨g, i * 2 + j, none⟩ = _
    rw [Blk.cell (t := 39) (cs := cur) hg, ← h6]; simp
theorem exF {cs : List Value} (h : ∀ u ∈ cs, u.oneCell' = true) : Flat (Lay.exact cs h) (fun _ => cs) := fun _ _ _ _ => Iff.rfl
section
variable {U : Prop} {Q : Exit → Act → World → Prop} {N : Nat} {e : Env} {F : Cell → Prop} {a : Act} {w : World} {ops : Array Oper} {rest : List Oper} {o : Oper}
theorem lab_on {f : FuncId} {bs : List Int} {d g k : Nat} {b : Bool} {l : Lab} (A : List Operand) (h : StE U N e F a w) (hF : ∀ o, F (g, o)) (hw : Region.wanted o (yielded ops a.tmps) = true) (hr : CallRun Try.prog o A f) (hd : o.dst = some d) (hdN : decide (d < N) = true)
    (HC : Calls Try.prog f (A.map a.eval).toArray w fun e w' => ∃ v, e = .returned (.agg #[.int .i64 l.d, v]) ∧ w'.ownsRow w.heap.size 90 2 v l.ps.length (l.ps.flatMap prE) ∧ Pk.RdAt w' g bs k b ∧ w.grownBy w' (some g))
    (hQ : ∀ v (hx : ∀ u ∈ [Value.int .i64 l.d, v], u.oneCell' = true) a' w', w'.ownsRow w.heap.size 90 2 v l.ps.length (l.ps.flatMap prE) → Pk.RdAt w' g bs k b → w.grownBy w' (some g) → StE U N ((d, true, .st (Lay.exact [.int .i64 l.d, v] hx) ()) :: e) F a' w' → wpList Try.prog ops Q rest a' w') : wpList Try.prog ops Q (o :: rest) a w := by
  refine call_on f A hw hr (HC.mono ?_)
  rintro _ w' ⟨v, rfl, h0, h1, h2⟩
  refine ⟨_, rfl, ?_⟩
  rw [hd]
  exact hQ v (ex_ok _ h0) _ w' h0 h1 h2 ((h.wroteB h2 hF fun _ => rd_blk h1).put (Below.refl _ _) (by simpa using hdN) ⟨fun _ => ⟨_, rfl, rfl⟩, fun e => by cases e⟩)
end
/-- What is known at a round's beginning. -/
abbrev LBE (g n m i : Nat) (v : Value) : Env := [(15, true, .int .i64 (i : Int)), (14, true, .int .i64 (m : Int)), (6, true, .val (.pointer (some ⟨g, 0, none⟩))), (7, true, .val v), (1, true, .int .i64 (n : Int))]
abbrev LBF (g n m i : Nat) : Env := [(15, true, .int .i64 (i : Int)), (14, true, .int .i64 (m : Int)), (6, true, .val (.pointer (some ⟨g, 0, none⟩))), (1, true, .int .i64 (n : Int))]
structure LBK (wB : World) (g m : Nat) (bs : List Int) (i : Nat) (v : Value) (q : List (Value × Lab)) (s : Nat × Bool) (wr : World) : Prop where
  rd : Pk.RdAt wr g bs s.1 s.2
  lv : LabsAt wr wB.heap.size v q
  eq : labsP bs (m - i) s (q.map (·.2)) = labsP bs m (0, false) []
  len : q.length = i
  z : wB.grownBy wr (some g)
def LBI (wB : World) (F : Cell → Prop) (g n m : Nat) (bs : List Int) (i : Nat) (a : Act) (wr : World) : Prop := ∃ v q s, LBK wB g m bs i v q s wr ∧ StE False 37 (LBE g n m i v) F a wr

end Go.Proofs.Ytihddficgpjgpaa.Y
