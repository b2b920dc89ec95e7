/- Yback: for PackBack -/
import Derived.Test.YtihddficgpjgpaaYlabn
namespace Go.Proofs.Ytihddficgpjgpaa.Y
open Go.RowKit Go.ChangeShapes Go.WideShapes Go.ChangeAt

theorem Try.underlying45 : Try.prog.underlying 45 = some (.slice 36) := by kernel_rfl
theorem opens_seeds : Opens Try.prog 45 (Lay.sl sdL) (fun l => l.length ≤ maxLen) := opens_mono (fun _ h => h.1) (opens_slice ⟨⟨0, []⟩⟩ Try.underlying45 (by kernel_rfl) (by decide) opens_seed)
section
variable {d : Nat} {t : TypeId} {p : String} {af : Array Edge} {g : Option (Nat × Bool)} {x x2 : Operand}
theorem ln_45 : LenRun Try.prog ⟨some d, .call { callee := .builtin .len, args := #[x], argTypes := #[45] }, t, p, af, g⟩ x := fun ev w A len cap h1 => by go_simp
theorem ix_45 : IndexRun Try.prog ⟨some d, .indexAddr 45 x x2, t, p, af, g⟩ x x2 2 := fun ev w b off len cap i h1 h2 h3 => by
  have hd : decide ((0 : Int) ≤ i) = true := by simp
  have hd2 : decide ((i : Int) < len) = true := by simp; omega
  go_simp
theorem al_36 : AllocRun Try.prog ⟨some d, .alloc 36, t, p, af, none⟩ 36 #[.int .i64 0, .slice none 0 0] := fun ev w => by go_simp
end
theorem nus {U : Prop} {l : Lab} : U → ∀ {w : World} {F : Cell → Prop} {cs : List Value}, sdL.on w F cs l → ∀ x : Int, Value.int .u32 x ∉ cs := by
  rintro _ w F cs ⟨D, L, _, _, c1, c2, rfl, h1, A, c, h2, _⟩ x hx
  obtain rfl : c1 = [.int .i64 D] := h1
  subst h2
  simp at hx
theorem nur {U : Prop} {l : Lab} : U → ∀ {w : World} {F : Cell → Prop} {cs : List Value}, rawL.on w F cs l → ∀ x : Int, Value.int .u32 x ∉ cs := by
  rintro _ w F cs ⟨c1, c2, rfl, h1, A, c, h2, _⟩ x hx
  obtain rfl : c1 = [.int .i64 l.d] := h1
  subst h2
  simp at hx
theorem f38b {U : Prop} {a b : Lab} {n : Nat} (ha : OKL a 12) : Fn U Try.prog 38 [.st rawL a, .lb b n] (.bool (sameB a b)) := fn2 fun w F v1 v2 h1 h2 hF => f38 (a := a) (b := b) (m := 12) (n := n) (by decide) w F [v1, v2] rfl (fun i v y e1 e2 => by
  match i, e1, e2 with
  | 0, e1, e2 =>
    simp at e1 e2; subst e1 e2
    obtain ⟨cs, e, h⟩ := h1
    exact ⟨cs, e, h, ha⟩
  | 1, e1, e2 => simp at e1 e2; subst e1 e2; exact h2) hF
theorem f37b {U : Prop} {bs : List Int} {a : Lab} {n : Nat} (hb : bs.length ≤ 100000) (hn : n ≤ 100000) : Fn U Try.prog 37 [.by bs, .lb a n] (.by (bs ++ labB a)) := fn_any (fn2 fun w F v1 v2 h1 h2 hF => by
  have hl := (lab_in h2).2.len
  exact f37 (bs := bs) (a := a) hb (by omega) w F [v1, v2] rfl (fun i v y e1 e2 => by
    match i, e1, e2 with
    | 0, e1, e2 => simp at e1 e2; subst e1 e2; exact h1
    | 1, e1, e2 => simp at e1 e2; subst e1 e2; exact lab_raw h2) hF)
theorem StE.loose {U : Prop} {N : Nat} {e : Env} {F : Cell → Prop} {a : Act} {w : World} (h : StE U N e F a w) : StE False N e F a w := ⟨h.size, h.defers, ⟨h.fok.lt, fun h => h.elim⟩, h.known⟩
theorem fine_all {l : List Lab} {w : World} {F : Cell → Prop} {v : Value} (h : (Sym.one (Lay.sl sdL) l).on w F v) : ∀ a ∈ l, Fine a := fun a ha => by
  obtain ⟨A, c, _, h1, _⟩ := h
  obtain ⟨i, hi, rfl⟩ := List.getElem_of_mem ha
  obtain ⟨b, off, _, _, h2⟩ := h1 (by omega)
  obtain ⟨cs, h3, _⟩ := h2 i hi
  exact (seed_in (v := .agg cs.toArray) ⟨cs, rfl, h3⟩).fine
theorem rightP_of {d : Int} : ∀ {ps : List (Int × Int)} {m : Int}, Rise m ps → (∀ p ∈ ps, p.2 ≠ d ∧ 0 ≤ p.2 ∧ p.2 ≤ 4 ∧ p.1 ≤ 1073741824) → rightP d m ps = true
  | [], _, _, _ => rfl
  | p :: t, m, h, hp => by
    have h1 := hp p List.mem_cons_self
    have h2 := rightP_of h.2 fun q hq => hp q (List.mem_cons_of_mem _ hq)
    unfold rightP
    rw [h2]
    simp only [Bool.and_true, Bool.and_eq_true, decide_eq_true_eq]
    exact ⟨h.1, h1.2.2.2, h1.2.1, h1.2.2.1, h1.1⟩
theorem tell_fine {l : Lab} (h : Fine l) : Tell l := tell_of (by
  have hd1 := h.d1
  have hd4 := h.d4
  have hl := h.len
  unfold rightB
  rw [rightP_of h.good.rise fun p hp => by
    have h2 := h.cat p hp
    have h3 := h.lv4 p.1
    have h4 : l.lv p.1 = p.2 := atP_mem _ h.good.rise p hp
    rw [h4] at h3
    exact ⟨h.good.neq p hp, h3.1, h3.2, by omega⟩]
  simp
  omega) h.len
theorem labs_len : ∀ {ls : List Lab}, (∀ l ∈ ls, Tell l) → (labsB ls).length ≤ 62 * ls.length
  | [], _ => by simp [labsB]
  | l :: ls, h => by
    have h1 := labs_len fun q hq => h q (List.mem_cons_of_mem _ hq)
    have h2 := (h l List.mem_cons_self).len
    rw [show labsB (l :: ls) = labB l ++ labsB ls by simp [labsB], List.length_append, labB_len, List.length_cons]
    omega

end Go.Proofs.Ytihddficgpjgpaa.Y
