/- Ytd: what slices.DeleteFunc does to a row of names -/
import Derived.Test.YtbeeiecbbmiojaaYtc
namespace Go.Proofs.Ytbeeiecbbmiojaa.Y
open Go.RowKit Go.ChangeShapes Go.WideShapes Go.ChangeAt Go.ChangeMaps Go.MapKept

section
variable {P : Program} {Q : Exit → Act → World → Prop} {N : Nat} {e e2 : Env} {a : Act} {w : World} {ops : Array Oper} {rest : List Oper} {o : Oper}
/-- A call whose operands are told by the step itself. -/
theorem callW {f : FuncId} {d : Nat} {R : Value → World → Prop} {args : Array Value} (h : StE False N e noF a w) (hw : Region.wanted o (yielded ops a.tmps) = true) (hr : (execOp a.eval o).run P w = .ok (.enter f args) w) (hd : o.dst = some d) (hdN : decide (d < N) = true)
    (HC : Calls P f args w fun e w' => ∃ v, e = .returned v ∧ R v w') (hv : ValsB e e2)
    (hQ : ∀ v a' w', R v w' → StE False N ((d, true, .val v) :: e2) noF a' w' → wpList P ops Q rest a' w') : wpList P ops Q (o :: rest) a w := by
  refine wpList_on hw ?_
  unfold Oper.wp
  rw [hr, Oper.upon_enter]
  refine HC.mono ?_
  rintro _ w' ⟨v, rfl, h0⟩
  show wpList P ops Q rest (a.put o.dst v) w'
  rw [hd]
  exact hQ v _ w' h0 ((h.vals (fok_no _ _) hv).put (Below.refl _ _) (by simpa using hdN) ⟨fun _ => rfl, fun e => by cases e⟩)
end
theorem cTest {m n : Int} {gb : Nat} {w : World} (hb : Blk w gb 28 #[.int .u64 n]) : Calls Try.prog 40 #[.int .u64 m, ptrV gb] w fun e w' => ∃ v, e = .returned v ∧ v = .bool (m == n) ∧ Below w.heap.size w w' := by
  refine (f40 (m := m) (n := n) w noF [.int .u64 m, ptrV gb] rfl (fun i v y h3 h4 => ?_) (fok_no _ _)).mono ?_
  · match i, h3, h4 with
    | 0, h3, h4 => simp at h3 h4; subst h3 h4; rfl
    | 1, h3, h4 =>
      simp at h3 h4; subst h3 h4
      refine ⟨gb, 0, [.int .u64 n], rfl, hb.lt, rfl, fun j hj => ⟨fun h => h, ?_⟩⟩
      obtain rfl : j = 0 := by simpa using hj
      rw [hb.cell]; simp
  · rintro _ w' ⟨v, rfl, h3, h4⟩
    exact ⟨v, rfl, h3, h4⟩
theorem kF : Flat (Lay.int .u64) kE := fun w F cs x => Flat.int .u64 w F cs x
theorem cFirst {l : List Int} {n : Int} {gb B : Nat} {w : World} {v : Value} (hl : l.length ≤ 1000000) (hr : w.ownsRow B 28 1 v l.length (l.flatMap kE)) (hb : Blk w gb 28 #[.int .u64 n]) : Calls Try.prog 57 #[v, .func (.func 40) #[] #[ptrV gb]] w fun e w' => ∃ v, e = .returned v ∧ v = .int .i64 (ixI l n) ∧ Below w.heap.size w w' := by
  refine (f57 (n := n) hl w noF [v, .func (.func 40) #[] #[ptrV gb]] rfl (fun i v y h3 h4 => ?_) (fok_no _ _)).mono ?_
  · match i, h3, h4 with
    | 0, h3, h4 => simp at h3 h4; subst h3 h4; exact sl_of_own kF hr (F := noF) fun _ _ _ _ h => h
    | 1, h3, h4 =>
      simp at h3 h4; subst h3 h4
      refine ⟨ptrV gb, rfl, gb, 0, [.int .u64 n], rfl, hb.lt, rfl, fun j hj => ⟨fun h => h, ?_⟩⟩
      obtain rfl : j = 0 := by simpa using hj
      rw [hb.cell]; simp
  · rintro _ w' ⟨v, rfl, h3, h4⟩
    exact ⟨v, rfl, h3, h4⟩
abbrev nq (x : Int) (m : Int) : Bool := m != x
theorem ix_none {l : List Int} {x : Int} (h : ixI l x = -1) : l.filter (nq x) = l := by
  have h1 : ¬ ixR l x < l.length := fun hh => by unfold ixI at h; rw [if_pos hh] at h; omega
  unfold ixR at h1
  rw [List.filter_eq_self]
  intro m hm
  have : l.takeWhile (fun m => !(m == x)) = l := by
    have h2 := (List.takeWhile_prefix (l := l) (fun m => !(m == x)))
    exact h2.eq_of_length (by have := h2.length_le; omega)
  have h3 := List.all_eq_true.1 (List.all_takeWhile (p := fun m => !(m == x)) (l := l)) m (by rw [this]; exact hm)
  simpa [bne] using h3
theorem ix_some {l : List Int} {x : Int} (h : ixI l x ≠ -1) : ∃ k : Nat, ixI l x = (k : Int) ∧ k < l.length ∧ (l.take (k + 1)).filter (nq x) = l.take k := by
  have h1 : ixR l x < l.length := Decidable.byContradiction fun hh => by unfold ixI at h; rw [if_neg hh] at h; exact h rfl
  refine ⟨ixR l x, by unfold ixI; rw [if_pos h1], h1, ?_⟩
  clear h
  unfold ixR at h1 ⊢
  induction l with
  | nil => simp at h1
  | cons m t ih =>
    rw [List.takeWhile_cons] at h1 ⊢
    by_cases e : m = x
    · simp [e]
    · have e' : (!(m == x)) = true := by simpa using e
      rw [if_pos e'] at h1 ⊢
      simp only [List.length_cons, List.take_succ_cons] at h1 ⊢
      rw [List.filter_cons, if_pos (by simpa [nq, bne] using e), ih (by omega)]
/-- What the row holds while names are taken out of it. -/
structure DK (w0 : World) (g gb : Nat) (c : Nat) (l : List Int) (x : Int) (j k : Nat) (cs : Array Value) (wr : World) : Prop where
  bl : Blk wr g 28 cs
  sz : cs.size = c
  lo : cs.toList.take k = ((l.take j).filter (nq x)).flatMap kE
  hi : ∀ q m, j ≤ q → l[q]? = some m → cs[q]? = some (.int .u64 m)
  kj : k ≤ j
  jn : j ≤ l.length
  bx : Blk wr gb 28 #[.int .u64 x]
  z : w0.grownBy wr (some g)
theorem kE_at {l : List Int} {q : Nat} {m : Int} (h : l[q]? = some m) : (l.flatMap kE)[q]? = some (.int .u64 m) := by
  have : l.flatMap kE = l.map (Value.int .u64) := by
    clear h
    induction l with
    | nil => rfl
    | cons a t ih => rw [List.flatMap_cons, List.map_cons, ih]; rfl
  rw [this, List.getElem?_map, h]; rfl
theorem map_kE (l : List Int) : l.flatMap kE = l.map (Value.int .u64) := by
  induction l with
  | nil => rfl
  | cons a t ih => rw [List.flatMap_cons, List.map_cons, ih]; rfl
theorem take_filter_succ {l : List Int} {j : Nat} {m x : Int} (h : l[j]? = some m) : (l.take (j + 1)).filter (nq x) = (l.take j).filter (nq x) ++ if m == x then [] else [m] := by
  obtain ⟨hj, rfl⟩ := List.getElem?_eq_some_iff.1 h
  rw [List.take_succ_eq_append_getElem hj, List.filter_append]
  congr 1
  by_cases e : l[j] = x
  · simp [e]
  · simp [e, bne]

end Go.Proofs.Ytbeeiecbbmiojaa.Y
