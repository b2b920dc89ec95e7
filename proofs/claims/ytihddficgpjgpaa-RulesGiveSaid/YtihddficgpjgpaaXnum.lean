/- Numbers and labels for the laws. -/
import Derived.Test.YtihddficgpjgpaaXseed
import Derived.Test.YtihddficgpjgpaaRulesSeen
namespace Go.Proofs.Ytihddficgpjgpaa.X
open Go.RowKit

theorem cat31 (x : Int) : IntKind.u32.wrap (IntKind.i64.wrap (bits .and .i64 x 31 + 1)) = x % 32 + 1 := by
  rw [i64_and31, IntKind.wrap_i64, IntKind.wrap_u32]
  omega
theorem lev5 (x : Int) : (IntKind.i64.wrap (x.tmod 5 + 5)).tmod 5 = x % 5 := by
  have h1 : -5 < x.tmod 5 := Int.lt_tmod_of_pos _ (by omega)
  have h2 : x.tmod 5 < 5 := Int.tmod_lt_of_pos _ (by omega)
  have h3 := mod5 x
  rw [IntKind.wrap_i64]
  have e : ((x.tmod 5 + 5) % 18446744073709551616 : Int) = x.tmod 5 + 5 := by omega
  have e2 : (x.tmod 5 + 5 + 9223372036854775808) % 18446744073709551616 - 9223372036854775808 = x.tmod 5 + 5 := by omega
  first
    | (rw [e2, Int.tmod_eq_emod_of_nonneg (by omega)]; exact h3)
    | (rw [Int.tmod_eq_emod_of_nonneg (by omega)]; omega)
theorem lev4 (x : Int) : IntKind.i64.wrap ((IntKind.i64.wrap (x.tmod 4 + 4)).tmod 4 + 1) = x % 4 + 1 := by
  have h1 : -4 < x.tmod 4 := Int.lt_tmod_of_pos _ (by omega)
  have h2 : x.tmod 4 < 4 := Int.tmod_lt_of_pos _ (by omega)
  have h3 : (x.tmod 4 + 4) % 4 = x % 4 := by
    rw [Int.tmod_eq_emod]
    split <;> omega
  have e2 : IntKind.i64.wrap (x.tmod 4 + 4) = x.tmod 4 + 4 := by rw [IntKind.wrap_i64]; omega
  rw [e2, Int.tmod_eq_emod_of_nonneg (by omega), h3, IntKind.wrap_i64]
  omega
theorem mask_nat32 (k : Nat) (hk : k ≤ 30) (n : Int) : (((BitVec.ofInt 32 n &&& BitVec.ofInt 32 (2 ^ k - 1)).toNat : Nat) : Int) = n % 2 ^ k := by
  have hp : (2 : Nat) ^ k ≤ 2 ^ 30 := Nat.pow_le_pow_right (by omega) hk
  have hp0 : 0 < (2 : Nat) ^ k := Nat.pow_pos (by omega)
  have e0 : ((BitVec.ofInt 32 n).toNat : Int) = n % 4294967296 := by
    rw [BitVec.toNat_ofInt]
    have : (0 : Int) ≤ n % ((2 ^ 32 : Nat) : Int) := Int.emod_nonneg _ (by decide)
    rw [Int.toNat_of_nonneg this]
    rfl
  have e1 : (BitVec.ofInt 32 ((2 : Int) ^ k - 1)).toNat = 2 ^ k - 1 := by
    have h : ((2 : Int) ^ k - 1) = ((2 ^ k - 1 : Nat) : Int) := by
      rw [Int.natCast_sub (by omega)]; simp
    rw [h, BitVec.ofInt_natCast, BitVec.toNat_ofNat]
    exact Nat.mod_eq_of_lt (by omega)
  rw [BitVec.toNat_and, e1, Nat.and_two_pow_sub_one_eq_mod, Int.natCast_emod, e0]
  have e2 : ((2 ^ k : Nat) : Int) = (2 : Int) ^ k := by simp
  rw [e2]
  have hd : ((2 : Int) ^ k) ∣ 4294967296 := by
    refine ⟨2 ^ (32 - k), ?_⟩
    rw [← Int.pow_add, show k + (32 - k) = 32 from by omega]
    rfl
  exact Int.emod_emod_of_dvd n hd
theorem u32_mask (k : Nat) (hk : k ≤ 30) (n : Int) : bits .and .u32 n (2 ^ k - 1) = n % 2 ^ k := by
  show IntKind.u32.wrap _ = _
  have h := mask_nat32 k hk n
  have h1 : (2 : Int) ^ k ≤ 2 ^ 30 := by
    have : (2 : Nat) ^ k ≤ 2 ^ 30 := Nat.pow_le_pow_right (by omega) hk
    have h := Int.ofNat_le.2 this
    simpa using h
  have h0 : (0 : Int) < 2 ^ k := Int.pow_pos (by omega)
  have h2 := Int.emod_lt_of_pos n h0
  have h3 := Int.emod_nonneg n (show (2 : Int) ^ k ≠ 0 by omega)
  have e : IntKind.u32.wrap (((BitVec.ofInt 32 n &&& BitVec.ofInt 32 (2 ^ k - 1)).toNat : Nat) : Int) = n % 2 ^ k := by
    rw [h, IntKind.wrap_u32]
    have : (2 : Int) ^ 30 = 1073741824 := by rfl
    omega
  exact e
theorem cat63 (x : Int) : IntKind.u32.wrap (bits .and .u32 x 63 + 1) = x % 64 + 1 := by
  rw [show bits .and .u32 x 63 = x % 64 from u32_mask 6 (by omega) x, IntKind.wrap_u32]
  omega
theorem cat1023 (x : Int) : IntKind.u32.wrap (bits .and .u32 x 1023 + 100) = x % 1024 + 100 := by
  rw [show bits .and .u32 x 1023 = x % 1024 from u32_mask 10 (by omega) x, IntKind.wrap_u32]
  omega
theorem getI {l : List Int} {i : Nat} (h : i < l.length) : l[i]? = some (l.getD i 0) := by simp [h]
theorem withP_none (d c v : Int) : ∀ {ps : List (Int × Int)} {m : Int}, Rise m ps → (∀ p ∈ ps, p.1 ≠ c) → (withP d c v ps).length = if v = d then ps.length else ps.length + 1
  | [], _, _, _ => by unfold withP; split <;> simp_all
  | p :: t, m, h, hn => by
    have h1 := hn p List.mem_cons_self
    have ih := withP_none d c v h.2 fun q hq => hn q (List.mem_cons_of_mem _ hq)
    unfold withP
    rw [if_neg h1]
    split
    · rw [List.length_cons, ih]; split <;> simp
    · split <;> simp
theorem withP_some (d c v : Int) : ∀ {ps : List (Int × Int)} {m : Int}, Rise m ps → (∃ p ∈ ps, p.1 = c) → (withP d c v ps).length = if v = d then ps.length - 1 else ps.length
  | [], _, _, ⟨p, h, _⟩ => by cases h
  | p :: t, m, h, ⟨q, hq, hc⟩ => by
    unfold withP
    by_cases h1 : p.1 = c
    · rw [if_neg (by omega), if_pos h1]
      split <;> simp
    · have hq' : q ∈ t := by
        rcases List.mem_cons.1 hq with rfl | hq
        · exact absurd hc h1
        · exact hq
      have hlt := h.2.lt q hq'
      rw [if_pos (by omega), List.length_cons, withP_some d c v h.2 ⟨q, hq', hc⟩]
      have : 0 < t.length := List.length_pos_of_mem hq'
      split <;> simp <;> omega
theorem with_default_len {b : Lab} (g : Good b) (c : Int) : (withL b c b.d).ps.length = if b.lv c = b.d then b.ps.length else b.ps.length - 1 := by
  show (withP b.d c b.d b.ps).length = _
  by_cases h : ∃ p ∈ b.ps, p.1 = c
  · rw [withP_some _ _ _ g.rise h, if_pos rfl]
    obtain ⟨p, hp, rfl⟩ := h
    have e : b.lv p.1 = p.2 := atP_mem b.d g.rise p hp
    rw [e, if_neg (g.neq p hp)]
  · rw [withP_none _ _ _ g.rise (fun p hp e => h ⟨p, hp, e⟩), if_pos rfl]
    rw [if_pos (lv_none h)]
theorem two {w : World} {F : Nat → Prop} {v : Value} {l : List Int} (h : (Sym.st (Lay.arr (Lay.int .i64) 2) l).on w F v) : ∃ p q, l = [p, q] := by
  obtain ⟨_, _, h1, _⟩ := h
  match l, h1 with
  | [p, q], _ => exact ⟨p, q, rfl⟩
end Go.Proofs.Ytihddficgpjgpaa.X
