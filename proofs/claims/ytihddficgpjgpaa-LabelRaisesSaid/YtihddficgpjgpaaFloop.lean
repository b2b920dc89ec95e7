/- Loops over a slice, told slot by slot. -/
import Derived.Test.YtihddficgpjgpaaFslice
namespace Go.Proofs.Ytihddficgpjgpaa
open Go.RowKit

/-- A loop that counts. -/
theorem wp_count {P : Program} {c : Code} {Q : Exit → Act → World → Prop} {a : Act} {w : World} (n s : Nat) (I : Nat → Act → World → Prop) (hs : ∀ i a w, I i a w → a.tmps.getD s undef = .int .i64 i) (h0 : I 0 a w)
    (round : ∀ i a w, i ≤ n → I i a w → c.wp P (Exit.then (fun a' w' => i < n ∧ I (i + 1) a' w') Q) a w) : (Code.loop c).wp P Q a w := by
  refine wp_loop (fun a w => ∃ i, i ≤ n ∧ I i a w) (fun a _ => n - (intOf (a.tmps.getD s undef)).toNat) ⟨0, Nat.zero_le _, h0⟩ fun a w ⟨i, hi, hI⟩ => ?_
  refine Code.wp_mono (fun e a' w' q => ?_) (round i a w hi hI)
  cases e with
  | normal =>
    obtain ⟨h1, h2⟩ := q
    refine ⟨⟨i + 1, h1, h2⟩, ?_⟩
    rw [hs _ _ _ hI, hs _ _ _ h2]
    simp [intOf]
    omega
  | _ => exact q

/-- The count goes on: 'u := s + 1; s := u'. -/
theorem flow_incr {id N : Nat} {Q : Exit → Act → World → Prop} {K : Nat → Bool × Sym} {D : List Nat} {a : Act} {w : World} {s u : Nat} {t t' : TypeId} {p p' : String} {af af' : Array Edge} {i : Nat} (h : St N K D a w) (hi : a.tmps.getD s undef = .int .i64 i) (hb : i + 1 < 9223372036854775807) (hsN : s < N) (huN : u < N) (D' : List Nat)
    (hD : D'.all (fun x => D.contains x && x != s && x != u) = true) (K' : Nat → Bool × Sym) (hE : AllEq K' K D')
    (hQ : ∀ a', St N K' D' a' w → a'.tmps.getD s undef = .int .i64 ((i + 1 : Nat) : Int) → Q .normal a' w) :
    (Code.region id #[⟨some u, .binOp .add 3 (.tmp s) (.const (.int .i64 1)) 3, t, p, af, none⟩, ⟨some s, .move (.tmp u), t', p', af', none⟩] false).wp Try.prog Q a w := by
  refine wp_region_lit ?_
  refine wpList_plain rfl fun K1 hK1 => ?_
  have e : IntKind.i64.wrap ((i : Int) + 1) = (i : Int) + 1 := by rw [IntKind.wrap_i64]; omega
  have hrun : (execOp a.eval ⟨some u, .binOp .add 3 (.tmp s) (.const (.int .i64 1)) 3, t, p, af, none⟩).run Try.prog w = .ok (.value (.int .i64 ((i : Int) + 1))) w := by
    have hv : a.eval (.tmp s) = .int .i64 i := hi
    have h1 : a.eval (.const (.int .i64 1)) = .int .i64 1 := rfl
    generalize a.eval = r at hv h1 ⊢
    go_simp
  unfold Oper.wp
  rw [hrun]
  refine hK1 _ _ (wpList_plain rfl fun K2 hK2 => ?_)
  unfold Oper.wp
  refine hK2 _ _ ?_
  have hsz := h.size
  refine hQ _ ⟨by simp [Act.put, hsz], h.defers, fun x hx => ?_⟩ ?_
  · have hx' := List.all_eq_true.1 hD x hx
    simp only [Bool.and_eq_true, bne_iff_ne] at hx'
    have hk := h.known x (by simpa using hx'.1.1)
    unfold Known at hk ⊢
    rw [allEq_at hE x hx]
    simp only [Act.put]
    rw [getD_put_ne (Ne.symm hx'.1.2), getD_put_ne (Ne.symm hx'.2)]
    exact hk
  · simp only [Act.put]
    rw [getD_put_eq (by simp [hsz, hsN])]
    show (a.tmps.setIfInBounds u _).getD u undef = _
    rw [getD_put_eq (by omega)]
    simp
end Go.Proofs.Ytihddficgpjgpaa
