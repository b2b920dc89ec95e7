/- Ylaw3: more for the laws on bytes -/
import Derived.Test.YtihddficgpjgpaaYfit3
import Derived.Test.YtihddficgpjgpaaHead
import Derived.Test.YtihddficgpjgpaaYopen
import Derived.Test.YtihddficgpjgpaaBits
namespace Go.Proofs.Ytihddficgpjgpaa.Y
open Go.RowKit Go.ChangeShapes Go.WideShapes Go.ChangeAt

/-- append(nil, l..): a list of the call's own. -/
theorem p_append0 {P : Program} {U : Prop} {ops : Array Oper} {Q : Exit → Act → World → Prop} {N d : Nat} {e : Env} {t : TypeId} {p : String} {af : Array Edge} {g : Option (Nat × Bool)} {c : Bool} {x : Operand} {T E : TypeId} {α : Type} {L : Lay α} {enc : α → List Value} {l : List α} {i : TypeInfo} {z : Value} {bytes : Nat} (hf : Flat L enc) (ht : P.underlying T = some (.slice E)) (hi : P.info? E = some i) (hz : i.zero = some z) (hsize : i.size = L.n) (hby : i.bytes = bytes) (hzs : z.cells.size = L.n) (hsz : 0 < L.n) (hb40 : bytes ≤ 64) (hl : l.length ≤ 1000000)
    (hg : GdE ops e g c) (hx : OpdE e c x (.one (Lay.sl L) l)) : Pays U P ops Q N e ⟨some d, .call { callee := .builtin .append, args := #[.const (.slice none 0 0), x], argTypes := #[T, T] }, t, p, af, g⟩ (c, .one (Lay.sl L) l) :=
  pOf hg fun e a w F hF hk R hR => by
    have h1 := hx a w F (fun s hs => hk s (by simp [Op.operands, Call.operands, hs])) e
    obtain ⟨A, cp, e1, hr, _⟩ := reads_of_sl hf h1
    have hby2 : (0 + l.length) * bytes ≤ 140737488355328 := Nat.le_trans (Nat.mul_le_mul (show 0 + l.length ≤ 1000000 by omega) hb40) (by decide)
    refine wp_append_any w (.const (.slice none 0 0)) x T rfl w.heap.size E i z L.n bytes ht hi hz hsize hby hzs hsz (.slice none 0 0) 0 [] rfl (World.ownsRow_nil _ _ _ _) w.heap.size A l.length cp _ e1 hr (hf.ones l) (by unfold maxLen; omega) hby2 (Nat.le_refl _) fun v' w' h2 h3 _ => ?_
    refine hR v' w' (below_of_none h3) (sl_of_own hf (by simpa using h2) fun g o hg _ hf => ?_)
    have := own_base h2 hg
    have := hF.lt (g, o) hf
    simp only at this
    omega
theorem opens_bytes : Opens Try.prog 22 (Lay.sl byL) (fun l => l.length ≤ maxLen ∧ ∀ x ∈ l, (Lit.int .u8 x).wf = true) := opens_slice ⟨0⟩ Try.underlying22 (by kernel_rfl) (by decide) (opens_int Try.underlying5)
theorem byt_wf {l : List Int} (h : ∀ x ∈ l, (Lit.int .u8 x).wf = true) : Pk.Byt l := fun x hx => by
  have := h x hx
  simp [Lit.wf, IntKind.min, IntKind.max, IntKind.bits, IntKind.signed] at this
  omega
theorem eight_is (q : Int) : ∃ n : Nat, 1 ≤ n ∧ n ≤ 8 ∧ IntKind.i64.wrap ((IntKind.i64.wrap (q.tmod 8 + 8)).tmod 8 + 1) = (n : Int) := by
  have h3 : (0 : Int) < 8 := by omega
  have h4 := Int.tmod_lt_of_pos q h3
  have h5 : -8 < q.tmod 8 := Int.lt_tmod_of_pos q h3
  have e : IntKind.i64.wrap (q.tmod 8 + 8) = q.tmod 8 + 8 := by rw [IntKind.wrap_i64]; omega
  rw [e]
  have h6 : 0 ≤ (q.tmod 8 + 8).tmod 8 := Int.tmod_nonneg _ (by omega)
  have h7 := Int.tmod_lt_of_pos (q.tmod 8 + 8) h3
  exact ⟨((q.tmod 8 + 8).tmod 8).toNat + 1, by omega, by omega, by rw [IntKind.wrap_i64]; omega⟩
theorem pow8 (n : Nat) : (256 : Int) ^ n = 2 ^ (8 * n) := by rw [Int.pow_mul]; rfl
theorem want_lt {n : Nat} (x : Int) (h : decide ((n : Int) < 8) = true) : bits .and .u64 x (IntKind.u64.wrap (IntKind.u64.wrap (2 ^ (8 * n)) - 1)) = x % 256 ^ n := by
  have h : n < 8 := by have := of_decide_eq_true h; omega
  have h1 : (2 : Int) ^ (8 * n) ≤ 2 ^ 56 := by
    have : (2 : Nat) ^ (8 * n) ≤ 2 ^ 56 := Nat.pow_le_pow_right (by omega) (by omega)
    have h := Int.ofNat_le.2 this
    simpa using h
  have h2 : (2 : Int) ^ 56 = 72057594037927936 := by rfl
  have h0 : (0 : Int) < 2 ^ (8 * n) := Int.pow_pos (by omega)
  have e : IntKind.u64.wrap (IntKind.u64.wrap (2 ^ (8 * n)) - 1) = 2 ^ (8 * n) - 1 := by
    rw [IntKind.wrap_u64, IntKind.wrap_u64]
    omega
  rw [e, u64_mask (8 * n) (by omega), pow8]
theorem want_8 {n : Nat} {x : Int} (hx : (Lit.int .u64 x).wf = true) (hn : n ≤ 8) (h : decide ((n : Int) < 8) = false) : x = x % 256 ^ n := by
  have h : ¬ n < 8 := by have := of_decide_eq_false h; omega
  obtain rfl : n = 8 := by omega
  simp [Lit.wf, IntKind.min, IntKind.max, IntKind.bits, IntKind.signed] at hx
  have : (256 : Int) ^ 8 = 18446744073709551616 := by rfl
  rw [this]
  omega
theorem puts_len {b : List Int} {n : Nat} {x : Int} (hl : b.length ≤ 1000000) (hn : n ≤ 8) : (((b ++ Pk.putL n x).length : Int) == IntKind.i64.wrap ((b.length : Int) + (n : Int))) = true := by
  rw [List.length_append, Pk.putL_length, IntKind.wrap_i64, beq_iff_eq]
  omega
theorem puts_num (n : Nat) (x : Int) : Pk.numL (((Pk.putL n x).drop 0).take n) = x % 256 ^ n := by
  rw [List.drop_zero, List.take_of_length_le (by rw [Pk.putL_length]; omega), Pk.numL_putL]
theorem byt_take {l : List Int} (h : Pk.Byt l) (k : Nat) : Pk.Byt (l.take k) := fun x hx => h x (List.mem_of_mem_take hx)
theorem byt_drop {l : List Int} (h : Pk.Byt l) (k : Nat) : Pk.Byt (l.drop k) := fun x hx => h x (List.mem_of_mem_drop hx)

end Go.Proofs.Ytihddficgpjgpaa.Y
