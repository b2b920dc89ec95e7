/- Ymath5: unlike labels have unlike bytes -/
import Derived.Test.YtihddficgpjgpaaYjoin
import Derived.Test.YtihddficgpjgpaaYseed
namespace Go.Proofs.Ytihddficgpjgpaa.Y
open Go.RowKit Go.ChangeShapes Go.WideShapes Go.ChangeAt

theorem f37l {U : Prop} {a : Lab} {m : Nat} (hm : m ≤ 100000) : Fn U Try.prog 37 [.by [], .lb a m] (.by (labB a)) := fn_any (fn2 fun w F v1 v2 h1 h2 hF => by
  have hl := (lab_in h2).2.len
  exact f37n (a := a) (by omega) w F [v1, v2] rfl (fun i v y e1 e2 => by
    match i, e1, e2 with
    | 0, e1, e2 => simp at e1 e2; subst e1 e2; exact h1
    | 1, e1, e2 => simp at e1 e2; subst e1 e2; exact lab_raw h2) hF)
theorem mn_3 {d : Nat} {t : TypeId} {p : String} {af : Array Edge} {g : Option (Nat × Bool)} {x x2 : Operand} {a b : Int} : Run2 Try.prog ⟨some d, .call { callee := .builtin .min, args := #[x, x2], argTypes := #[3, 3] }, t, p, af, g⟩ x x2 (.int .i64 a) (.int .i64 b) (.int .i64 (min a b)) := fun ev w h1 h2 => by go_simp
/-- Its numbers fit into their bytes. -/
structure Small (a : Lab) : Prop where
  d : 0 ≤ a.d ∧ a.d < 256
  len : a.ps.length < 256
  ps : ∀ p ∈ a.ps, (0 ≤ p.1 ∧ p.1 < 4294967296) ∧ 0 ≤ p.2 ∧ p.2 < 256
theorem u8_id {x : Int} (h : 0 ≤ x ∧ x < 256) : IntKind.u8.wrap x = x := by rw [IntKind.wrap_u8]; omega
theorem pairB_inj {p q : Int × Int} (hp : (0 ≤ p.1 ∧ p.1 < 4294967296) ∧ 0 ≤ p.2 ∧ p.2 < 256) (hq : (0 ≤ q.1 ∧ q.1 < 4294967296) ∧ 0 ≤ q.2 ∧ q.2 < 256) (h : pairB p = pairB q) : p = q := by
  unfold pairB at h
  obtain ⟨h1, h2⟩ := List.append_inj h (by rw [Pk.putL_length, Pk.putL_length])
  have h3 : p.2 = q.2 := by
    injection h2 with h2 _
    rwa [u8_id hp.2, u8_id hq.2] at h2
  have h4 := congrArg Pk.numL h1
  rw [Pk.numL_putL, Pk.numL_putL, IntKind.wrap_u64, IntKind.wrap_u64] at h4
  have h5 : (256 : Int) ^ 4 = 4294967296 := by rfl
  rw [h5] at h4
  exact Prod.ext (by omega) h3
theorem pairsB_inj : ∀ {ps qs : List (Int × Int)}, (∀ p ∈ ps, (0 ≤ p.1 ∧ p.1 < 4294967296) ∧ 0 ≤ p.2 ∧ p.2 < 256) → (∀ p ∈ qs, (0 ≤ p.1 ∧ p.1 < 4294967296) ∧ 0 ≤ p.2 ∧ p.2 < 256) → ps.length = qs.length → ps.flatMap pairB = qs.flatMap pairB → ps = qs
  | [], [], _, _, _, _ => rfl
  | [], _ :: _, _, _, h, _ => by simp at h
  | _ :: _, [], _, _, h, _ => by simp at h
  | p :: ps, q :: qs, hp, hq, hl, h => by
    rw [List.flatMap_cons, List.flatMap_cons] at h
    obtain ⟨h1, h2⟩ := List.append_inj h (by rw [pairB_len, pairB_len])
    rw [pairB_inj (hp p List.mem_cons_self) (hq q List.mem_cons_self) h1, pairsB_inj (fun x hx => hp x (List.mem_cons_of_mem _ hx)) (fun x hx => hq x (List.mem_cons_of_mem _ hx)) (by simpa using hl) h2]
theorem lab_prefix {a b : Lab} (ha : Small a) (hb : Small b) {n : Nat} (hn : n = min (labB a).length (labB b).length) (h : (labB a).take n = (labB b).take n) : a = b := by
  have la := labB_len a
  have lb := labB_len b
  have h0 : ((labB a).take n)[0]? = ((labB b).take n)[0]? := by rw [h]
  have h1 : ((labB a).take n)[1]? = ((labB b).take n)[1]? := by rw [h]
  rw [List.getElem?_take, List.getElem?_take, if_pos (by omega), if_pos (by omega)] at h0
  rw [List.getElem?_take, List.getElem?_take, if_pos (by omega), if_pos (by omega)] at h1
  simp only [labB, List.cons_append, List.nil_append, List.getElem?_cons_zero, List.getElem?_cons_succ, Option.some.injEq] at h0 h1
  rw [u8_id ha.d, u8_id hb.d] at h0
  have e1 := ha.len
  have e2 := hb.len
  rw [u8_id (by omega), u8_id (by omega)] at h1
  have hl : a.ps.length = b.ps.length := by omega
  rw [List.take_of_length_le (by omega), List.take_of_length_le (by omega)] at h
  unfold labB at h
  obtain ⟨_, h3⟩ := List.append_inj h (by rfl)
  have := pairsB_inj ha.ps hb.ps hl h3
  cases a; cases b
  simp_all
theorem small_fine {a : Lab} (h : Fine a) : Small a := ⟨by have := h.d1; have := h.d4; omega, by have := h.len; omega, fun p hp => by
  have h1 := Rise.lt h.good.rise p hp
  have h2 := h.cat p hp
  have h3 := h.lv4 p.1
  have h4 : a.lv p.1 = p.2 := atP_mem _ h.good.rise p hp
  rw [h4] at h3
  omega⟩
theorem apart_law {a b : Lab} (fa : Fine a) (fb : Fine b) (h : sameB a b = false) : (!decide ((labB a).take (min (labB a).length (labB b).length) = (labB b).take (min (labB a).length (labB b).length)) && (((labB a).length : Int) == IntKind.i64.wrap (2 + IntKind.i64.wrap (5 * (a.ps.length : Int))))) = true := by
  have h1 : ¬ (labB a).take (min (labB a).length (labB b).length) = (labB b).take (min (labB a).length (labB b).length) := fun e => by
    have := lab_prefix (small_fine fa) (small_fine fb) rfl e
    subst this
    rw [show sameB a a = true from (sameB_iff a a).2 rfl] at h
    cases h
  have hl := fa.len
  have h2 : IntKind.i64.wrap (2 + IntKind.i64.wrap (5 * (a.ps.length : Int))) = ((labB a).length : Int) := by rw [labB_len, IntKind.wrap_i64, IntKind.wrap_i64]; omega
  rw [h2]
  simp [h1]

end Go.Proofs.Ytihddficgpjgpaa.Y
