/- Ytr: what Remove needs -/
import Derived.Test.YtbeeiecbbmiojaaYte
import Derived.Test.YtbeeiecbbmiojaaYcalln
namespace Go.Proofs.Ytbeeiecbbmiojaa.Y
open Go.RowKit Go.ChangeShapes Go.WideShapes Go.ChangeAt Go.ChangeMaps Go.MapKept

section
variable {d : Nat} {t : TypeId} {p : String} {af : Array Edge} {g : Option (Nat × Bool)} {x x2 : Operand}
theorem bx_28 {n : Int} : ∀ (ev : Operand → Value) (w : World), ev x = .int .u64 n → (execOp ev ⟨some d, .box 28 x, t, p, af, g⟩).run Try.prog w = .ok (.value (.pointer (some ⟨w.heap.size, 0, none⟩))) (w.alloc (.cells #[.int .u64 n] 28)) := fun ev w h1 => by go_simp
theorem bs_49 {b : Nat} : ∀ (ev : Operand → Value) (w : World), ev x = .pointer (some ⟨b, 0, none⟩) → (execOp ev ⟨some d, .buildSlice 49 1 #[(0, x)], t, p, af, g⟩).run Try.prog w = .ok (.value (.slice (some ⟨w.heap.size, 0, none⟩) 1 1)) (w.alloc (.cells #[.pointer (some ⟨b, 0, none⟩)] 27)) := fun ev w h1 => by go_simp
theorem ix_49 : IndexRun Try.prog ⟨some d, .indexAddr 49 x x2, t, p, af, g⟩ x x2 1 := fun ev w b off len cap i h1 h2 h3 => by
  have hd : decide ((0 : Int) ≤ i) = true := by simp
  have hd2 : decide ((i : Int) < len) = true := by simp; omega
  go_simp
end
theorem Try.info27 : (Try.prog.info? 27).map (fun i => (i.zero, i.size, i.bytes)) = some (some (.pointer none), 1, 8) := by kernel_rfl
theorem Try.underlying49 : Try.prog.underlying 49 = some (.slice 27) := by kernel_rfl
/-- A slice of pointers of which one leads to an object. -/
def Sym.rowO (b len cap i g : Nat) (cs ds : Array Value) : Sym := ⟨fun w F v => v = .slice (some ⟨b, 0, none⟩) len cap ∧ i < len ∧ Blk w b 27 cs ∧ cs[i]? = some (.pointer (some ⟨g, 0, none⟩)) ∧ Blk w g 48 ds ∧ (∀ k, ¬ F (b, k)) ∧ ∀ k, ¬ F (g, k), by
  rintro w w' F F' v ⟨e, hi, h1, h2, h3, h4, h5⟩ hk hF
  exact ⟨e, hi, (hk.whole b h1.lt h4).trans h1, h2, (hk.whole g h3.lt h5).trans h3, fun k hf => h4 k (hF (b, k) h1.lt hf), fun k hf => h5 k (hF (g, k) h3.lt hf)⟩⟩
/-- A pointer to that place. -/
def Sym.ptrO (b i g : Nat) (cs ds : Array Value) : Sym := ⟨fun w F v => v = .pointer (some ⟨b, 0 + i * 1, none⟩) ∧ Blk w b 27 cs ∧ cs[i]? = some (.pointer (some ⟨g, 0, none⟩)) ∧ Blk w g 48 ds ∧ (∀ k, ¬ F (b, k)) ∧ ∀ k, ¬ F (g, k), by
  rintro w w' F F' v ⟨e, h1, h2, h3, h4, h5⟩ hk hF
  exact ⟨e, (hk.whole b h1.lt h4).trans h1, h2, (hk.whole g h3.lt h5).trans h3, fun k hf => h4 k (hF (b, k) h1.lt hf), fun k hf => h5 k (hF (g, k) h3.lt hf)⟩⟩
section
variable {U : Prop} {ops : Array Oper} {Q : Exit → Act → World → Prop} {N d : Nat} {e : Env} {t : TypeId} {p : String} {af : Array Edge} {gd : Option (Nat × Bool)} {c : Bool} {x x2 : Operand} {b len cap i g : Nat} {cs ds : Array Value}
theorem p_idxO (hg : GdE ops e gd c) (hx : OpdE e c x (.rowO b len cap i g cs ds)) (hx2 : OpdE e c x2 (.int .i64 i)) : Pays U Try.prog ops Q N e ⟨some d, .indexAddr 49 x x2, t, p, af, gd⟩ (c, .ptrO b i g cs ds) :=
  pVal hg fun e a w F hk => by
    have h := hx a w F (fun s hs => hk s (by simp [Op.operands, hs])) e
    exact ⟨_, ix_49 _ w b 0 len cap i h.1 (hx2 a w F (fun s hs => hk s (by simp [Op.operands, hs])) e) h.2.1, rfl, h.2.2⟩
theorem p_ldO (hg : GdE ops e gd c) (hx : OpdE e c x (.ptrO b i g cs ds)) : Pays U Try.prog ops Q N e ⟨some d, .load 27 x, t, p, af, gd⟩ (c, .bp g 48 ds 0) :=
  pVal hg fun e a w F hk => by
    have h := hx a w F (fun s hs => hk s (by simp [Op.operands, hs])) e
    exact ⟨_, ld_27 _ w b (0 + i * 1) _ h.1 (by rw [h.2.1.cell, show 0 + i * 1 = i by omega]; exact h.2.2.1), rfl, h.2.2.2.1, h.2.2.2.2.2⟩
theorem p_clo {u : Value} (hg : GdE ops e gd c) (hx : OpdE e c x (.val u)) : Pays U Try.prog ops Q N e ⟨some d, .makeFunc (.func 40) #[] #[x], t, p, af, gd⟩ (c, .val (.func (.func 40) #[] #[u])) :=
  p_run1 hx (fun ev w h1 => mk_40 ev w u h1) (fun s h => by simp [Op.operands, h]) hg
end
theorem clone_own {l : List Int} {B : Nat} {w : World} {v : Value} (hl : l.length ≤ 1000000) (hr : w.ownsRow B 28 1 v l.length (l.flatMap kE)) : Calls Try.prog 39 #[v] w fun e w' => ∃ u, e = .returned u ∧ w'.ownsRow w.heap.size 28 1 u l.length (l.flatMap kE) ∧ Below w.heap.size w w' := by
  obtain ⟨A, cp, e1, h2, _⟩ := reads_of_sl kF (sl_of_own kF hr (F := noF) fun _ _ _ _ h => h)
  rw [e1]
  exact clone_anyU A cp l.length _ w.heap.size w h2 (Nat.le_refl _) hl (kF.ones l)
theorem grown_below {w w1 w2 : World} {B : Nat} {r : Option Nat} (h : Below B w w1) (hB : B ≤ w.heap.size) (hg : w1.grownBy w2 r) (hr : ∀ x, r = some x → B ≤ x) : Below B w w2 := h.grown hg (Nat.le_trans hB h.size) hr
theorem out_one {w : World} {B b g : Nat} (h : Blk w b 27 #[.pointer (some ⟨g, 0, none⟩)]) (hB : B ≤ b) : w.ownsRow B 27 1 (.slice (some ⟨b, 0, none⟩) 1 1) [g].length ([g].flatMap pE) := ⟨rfl, .inr ⟨b, 1, _, rfl, hB, h, Nat.le_refl _, by unfold maxLen; omega, rfl, rfl⟩⟩
/-- A step of what goes. -/
theorem remL_step {ob : Nat → Option TO} {f : Nat} {tm tm' : List (Int × Nat)} {out out' : List Nat} {i : Nat} (h : remL ob f tm out i = some (tm', out')) : (out.length ≤ i ∧ tm' = tm ∧ out' = out) ∨ ∃ f' g o gs, f = f' + 1 ∧ out[i]? = some g ∧ ob g = some o ∧ pops (delT tm o.name) o.kids = some gs ∧ remL ob f' (delT tm o.name) (out ++ gs) (i + 1) = some (tm', out') := by
  cases f with
  | zero => cases h
  | succ f =>
    rw [remL] at h
    cases hg : out[i]? with
    | none =>
      rw [hg] at h
      simp only [Option.some.injEq, Prod.mk.injEq] at h
      exact .inl ⟨List.getElem?_eq_none_iff.1 hg, h.1.symm, h.2.symm⟩
    | some g =>
      rw [hg] at h
      cases ho : ob g with
      | none => simp [ho] at h
      | some o =>
        simp only [ho] at h
        cases hp : pops (delT tm o.name) o.kids with
        | none => simp [hp] at h
        | some gs => simp only [hp] at h; exact .inr ⟨f, g, o, gs, rfl, rfl, ho, hp, h⟩
theorem pops_at : ∀ {tm : List (Int × Nat)} {ks : List Int} {gs : List Nat}, pops tm ks = some gs → gs.length = ks.length ∧ ∀ (j : Nat) (k : Int), ks[j]? = some k → ∃ g, tm.lookup k = some g ∧ gs[j]? = some g
  | _, [], gs, h => by
    simp [pops] at h
    subst h
    exact ⟨rfl, fun j k h => by simp at h⟩
  | tm, k :: ks, gs, h => by
    rw [pops] at h
    cases hk : tm.lookup k with
    | none => rw [hk] at h; cases h
    | some g =>
      cases hp : pops tm ks with
      | none => rw [hk, hp] at h; cases h
      | some gs' =>
        rw [hk, hp] at h
        injection h with h
        subst h
        obtain ⟨h1, h2⟩ := pops_at hp
        refine ⟨by simp [h1], fun j k' hj => ?_⟩
        cases j with
        | zero => simp at hj; subst hj; exact ⟨g, hk, rfl⟩
        | succ j => simp at hj; obtain ⟨g2, a1, a2⟩ := h2 j k' hj; exact ⟨g2, a1, by simpa using a2⟩
theorem remL_len {ob : Nat → Option TO} : ∀ {f : Nat} {tm tm' : List (Int × Nat)} {out out' : List Nat} {i : Nat}, remL ob f tm out i = some (tm', out') → out.length ≤ out'.length
  | 0, _, _, _, _, _, h => by cases h
  | f + 1, tm, tm', out, out', i, h => by
    rcases remL_step h with ⟨_, _, e⟩ | ⟨f', g, o, gs, e, _, _, _, h5⟩
    · rw [e]; exact Nat.le_refl _
    · obtain rfl : f' = f := by omega
      have := remL_len h5
      rw [List.length_append] at this
      omega
theorem map_pE (l : List Nat) : l.flatMap pE = l.map ptrV := by
  induction l with
  | nil => rfl
  | cons a t ih => rw [List.flatMap_cons, List.map_cons, ih]; rfl
theorem at_pE {l : List Nat} {cur : Array Value} {q g : Nat} (h : cur.toList.take (l.length * 1) = l.flatMap pE) (hm : l[q]? = some g) : cur[q]? = some (ptrV g) := by
  have hq := (List.getElem?_eq_some_iff.1 hm).1
  have h2 : (l.flatMap pE)[q]? = some (ptrV g) := by rw [map_pE, List.getElem?_map, hm]; rfl
  rw [← h, List.getElem?_take, if_pos (by omega)] at h2
  simpa using h2
theorem p_lenW {U : Prop} {ops : Array Oper} {Q : Exit → Act → World → Prop} {N d : Nat} {e : Env} {t : TypeId} {p : String} {af : Array Edge} {g : Option (Nat × Bool)} {c : Bool} {x : Operand} {v : Value} {n : Nat} {u : TypeId} (hv : ∃ A cp, v = .slice A n cp) (hr : LenRun Try.prog ⟨some d, .call { callee := .builtin .len, args := #[x], argTypes := #[u] }, t, p, af, g⟩ x) (hg : GdE ops e g c) (hx : OpdE e c x (.val v)) : Pays U Try.prog ops Q N e ⟨some d, .call { callee := .builtin .len, args := #[x], argTypes := #[u] }, t, p, af, g⟩ (c, .int .i64 n) := by
  obtain ⟨A, cp, rfl⟩ := hv
  exact p_lenV hr hg hx
theorem pops_take {α : Type} {gs : List α} {j : Nat} {g : α} (h : gs[j]? = some g) : gs.take (j + 1) = gs.take j ++ [g] := by
  obtain ⟨hj, rfl⟩ := List.getElem?_eq_some_iff.1 h
  rw [List.take_succ_eq_append_getElem hj]

end Go.Proofs.Ytbeeiecbbmiojaa.Y
