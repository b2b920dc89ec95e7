/- Ysj: slices.Sort at uint64: bits.Len, nextPowerOfTwo, xorshift, breakPatterns -/
import Derived.Lib.Tables
import Derived.Laws.Bits64
import Derived.Laws.Bits64b
import Derived.Test.YtbeeiecbbmiojaaMSb
namespace Go.Proofs.Ytbeeiecbbmiojaa.Y
open Go.RowKit Go.ChangeShapes Go.WideShapes Go.ChangeAt Go.ChangeMaps Go.MapKept

open Go.Sort (ltInt swp PermIn)
section
variable {d : Nat} {t : TypeId} {p : String} {af : Array Edge} {g : Option (Nat × Bool)} {x x2 : Operand}
theorem sh28a {a : Int} : Run2 Try.prog ⟨some d, .binOp .shr 28 x x2 55, t, p, af, g⟩ x x2 (.int .u64 a) (.int .u64 32) (.int .u64 (a / 4294967296)) := fun ev w h1 h2 => by go_simp
theorem sh28b {a : Int} : Run2 Try.prog ⟨some d, .binOp .shr 28 x x2 55, t, p, af, g⟩ x x2 (.int .u64 a) (.int .u64 16) (.int .u64 (a / 65536)) := fun ev w h1 h2 => by go_simp
theorem sh28c {a : Int} : Run2 Try.prog ⟨some d, .binOp .shr 28 x x2 55, t, p, af, g⟩ x x2 (.int .u64 a) (.int .u64 8) (.int .u64 (a / 256)) := fun ev w h1 h2 => by go_simp
theorem sh152 {a : Int} : Run2 Try.prog ⟨some d, .binOp .shr 152 x x2 55, t, p, af, g⟩ x x2 (.int .u64 a) (.int .u64 7) (.int .u64 (a / 128)) := fun ev w h1 h2 => by go_simp
theorem sl152a {a : Int} : Run2 Try.prog ⟨some d, .binOp .shl 152 x x2 55, t, p, af, g⟩ x x2 (.int .u64 a) (.int .u64 13) (.int .u64 (IntKind.u64.wrap (a * 8192))) := fun ev w h1 h2 => by go_simp
theorem sl152b {a : Int} : Run2 Try.prog ⟨some d, .binOp .shl 152 x x2 55, t, p, af, g⟩ x x2 (.int .u64 a) (.int .u64 17) (.int .u64 (IntKind.u64.wrap (a * 131072))) := fun ev w h1 h2 => by go_simp
theorem xo152 {a b : Int} : Run2 Try.prog ⟨some d, .binOp .xor 152 x x2 152, t, p, af, g⟩ x x2 (.int .u64 a) (.int .u64 b) (.int .u64 (bits .xor .u64 a b)) := fun ev w h1 h2 => by go_simp
theorem an55 {a b : Int} : Run2 Try.prog ⟨some d, .binOp .and 55 x x2 55, t, p, af, g⟩ x x2 (.int .u64 a) (.int .u64 b) (.int .u64 (bits .and .u64 a b)) := fun ev w h1 h2 => by go_simp
theorem su55 {a b : Int} : Run2 Try.prog ⟨some d, .binOp .sub 55 x x2 55, t, p, af, g⟩ x x2 (.int .u64 a) (.int .u64 b) (.int .u64 (IntKind.u64.wrap (a - b))) := fun ev w h1 h2 => by go_simp
theorem cv355 {a : Nat} (h : a < 9223372036854775808) : Run1 Try.prog ⟨some d, .convert 3 55 x, t, p, af, g⟩ x (.int .i64 (a : Int)) (.int .u64 (a : Int)) := fun ev w h1 => by
  have : IntKind.u64.wrap (a : Int) = a := by rw [IntKind.wrap_u64]; omega
  go_simp
theorem cv3152 {a : Nat} (h : a < 9223372036854775808) : Run1 Try.prog ⟨some d, .convert 3 152 x, t, p, af, g⟩ x (.int .i64 (a : Int)) (.int .u64 (a : Int)) := fun ev w h1 => by
  have : IntKind.u64.wrap (a : Int) = a := by rw [IntKind.wrap_u64]; omega
  go_simp
theorem cv553 {a : Nat} (h : a < 9223372036854775808) : Run1 Try.prog ⟨some d, .convert 55 3 x, t, p, af, g⟩ x (.int .u64 (a : Int)) (.int .i64 (a : Int)) := fun ev w h1 => by
  have : IntKind.i64.wrap (a : Int) = a := by rw [IntKind.wrap_i64]; omega
  go_simp
theorem cv285 {a : Nat} (h : a < 256) : Run1 Try.prog ⟨some d, .convert 28 5 x, t, p, af, g⟩ x (.int .u64 (a : Int)) (.int .u8 (a : Int)) := fun ev w h1 => by
  have : IntKind.u8.wrap (a : Int) = a := by rw [IntKind.wrap_u8]; omega
  go_simp
theorem cv53 {a : Nat} (h : a < 256) : Run1 Try.prog ⟨some d, .convert 5 3 x, t, p, af, g⟩ x (.int .u8 (a : Int)) (.int .i64 (a : Int)) := fun ev w h1 => by
  have : IntKind.i64.wrap (a : Int) = a := by rw [IntKind.wrap_i64]; omega
  go_simp
theorem sl55 {L : Nat} (h : L < 64) : Run2 Try.prog ⟨some d, .binOp .shl 55 x x2 3, t, p, af, g⟩ x x2 (.int .u64 1) (.int .i64 (L : Int)) (.int .u64 ((2 ^ L : Nat) : Int)) := fun ev w h1 h2 => by
  go_simp
  have h3 : 2 ^ L < 2 ^ 64 := Nat.pow_lt_pow_right (by omega) h
  rw [show ((2 : Int) ^ L) = ((2 ^ L : Nat) : Int) by simp, IntKind.wrap_u64]
  generalize 2 ^ L = q at *
  omega
theorem ix9 {s : ByteArray} {y : Nat} (hs : s = Lib.len8tab) (hy : y < 256) : RunC Try.prog ⟨some d, .index 9 (.const (.string s)) x, t, p, af, g⟩ x (.int .u8 (y : Int)) (.int .u8 ((Lib.len8tab[y]!).toNat : Int)) := fun ev w h0 h1 => by
  have h3 : y < Lib.len8tab.size := by rw [Lib.len8tab_size]; exact hy
  subst hs
  have h4 := h0 (.string Lib.len8tab)
  go_simp
theorem tab_ok : ∀ y : Fin 256, (1 ≤ y.val → 2 ^ (Lib.len8tab[y.val]!).toNat ≤ 2 * y.val) ∧ (Lib.len8tab[y.val]!).toNat ≤ 8 := by decide +kernel
theorem al_152 : AllocRun Try.prog ⟨some d, .alloc 152, t, p, af, none⟩ 152 #[.int .u64 0] := fun ev w => by go_simp
theorem ld_152 : LoadRun Try.prog ⟨some d, .load 152 x, t, p, af, g⟩ x := fun ev w b off v h1 h2 => by go_simp
end
section
variable {U : Prop} {ops : Array Oper} {Q : Exit → Act → World → Prop} {N d : Nat} {e : Env} {t : TypeId} {p : String} {af : Array Edge} {gd : Option (Nat × Bool)} {c : Bool} {x x2 : Operand}
theorem p_binS {u u' : TypeId} {o : BinOp} {v1 v2 : Value} {k : IntKind} {m m' : Int} (hn : m = m') (hg : GdE ops e gd c) (hx : OpdE e c x (.val v1)) (hx2 : OpdE e c x2 (.val v2)) (hr : Run2 Try.prog ⟨some d, .binOp o u x x2 u', t, p, af, gd⟩ x x2 v1 v2 (.int k m)) : Pays U Try.prog ops Q N e ⟨some d, .binOp o u x x2 u', t, p, af, gd⟩ (c, .int k m') := p_binC (fun _ => hn) hg hx hx2 hr
end
theorem p_tab {U : Prop} {ops : Array Oper} {Q : Exit → Act → World → Prop} {N d : Nat} {e : Env} {t : TypeId} {p : String} {af : Array Edge} {gd : Option (Nat × Bool)} {c : Bool} {x : Operand} {s : ByteArray} {y : Nat} (hs : s = Lib.len8tab) (hy : y < 256) (hg : GdE ops e gd c) (hx : OpdE e c x (.int .u8 (y : Int))) : Pays U Try.prog ops Q N e ⟨some d, .index 9 (.const (.string s)) x, t, p, af, gd⟩ (c, .int .u8 ((Lib.len8tab[y]!).toNat : Int)) :=
  p_runC hx (ix9 hs hy) (fun q hq => by
    rw [show (Op.index 9 (.const (.string s)) x).operands = #[.const (.string s), x] from rfl]
    simp [hq]) hg
theorem len_pow {x y n t : Nat} (hy : y = x / 2 ^ n) (_h1 : 1 ≤ y) (ht : 2 ^ t ≤ 2 * y) : 2 ^ (n + t) ≤ 2 * x := by
  rw [Nat.pow_add]
  have h2 : 2 ^ n * y ≤ x := by rw [hy]; exact Nat.mul_div_le x (2 ^ n)
  calc 2 ^ n * 2 ^ t ≤ 2 ^ n * (2 * y) := Nat.mul_le_mul_left _ ht
    _ = 2 * (2 ^ n * y) := by rw [Nat.mul_left_comm]
    _ ≤ 2 * x := Nat.mul_le_mul_left _ h2
theorem cond_false {P : Program} {Q : Exit → Act → World → Prop} {a : Act} {w : World} {x y : Code} (h : y.wp P Q a w) : (Code.cond (.const (.bool false)) x y).wp P Q a w := wp_cond (t := false) rfl h
set_option maxRecDepth 100000 in
/-- bits.Len64: how far it is off. -/
theorem cLen64 {w : World} {x : Nat} (hx : x < 18446744073709551616) : Calls Try.prog 87 #[.int .u64 (x : Int)] w fun e w' => ∃ v, e = .returned v ∧ ∃ L : Nat, v = .int .i64 (L : Int) ∧ (1 ≤ x → 2 ^ L ≤ 2 * x) ∧ L ≤ 64 ∧ Below w.heap.size w w' := by
  have z0 : OnlyB (fun _ => False) w w := OnlyB.refl _ _
  go_enter Try.func87, Try.ntmps87
  refine wp_seq ?_
  refine flowC mixed (st0 (U := False) (N := 25) (e := [(0, true, .val (.int .u64 (x : Int)))]) (F := noF) rfl rfl (fok_no _ _) ⟨⟨rfl, rfl⟩, True.intro⟩) (by kernel_rfl) (by kernel_rfl) (cc rfl (p_assign g0 (oc _)) cn) fun a1 w1 b1 s1 => ?_
  have z1 := z0.below b1
  refine wp_seq ?_
  refine wp_seq ?_
  refine flowC mixed (s1.keep (sc 0 rfl (sc 2 rfl sn))) (by kernel_rfl) (by kernel_rfl) (cc rfl (p_move g0 (od rfl id))
      (cc rfl (p_bin g0 (od rfl id) (oc _) b_geq_28) cn)) fun a2 w2 b2 s2 => ?_
  have z2 := z1.below b2
  refine s2.cond 4 rfl (fun h4 => ?_) (fun h4 => ?_)
  · -- true
    have hx4 : 4294967296 ≤ x := by have h2 := of_decide_eq_true h4; (try dsimp only at h2); omega
    refine wp_seq ?_
    refine flowT (s2.keep (sc 0 rfl (sc 2 rfl sn))) (by kernel_rfl) (cc rfl (p_move g0 (od rfl id))
        (cc rfl (p_binS (m' := ((x / 4294967296 : Nat) : Int)) (by omega) g0 (od rfl id) (oc _) sh28a)
        (cc rfl (p_assign g0 (od rfl id)) cn))) fun a3 w3 b3 s3 => ?_
    have z3 := z2.below b3
    refine flowT (s3.keep (sc 0 rfl (sc 2 rfl sn))) (by kernel_rfl) (cc rfl (p_assign g0 (oc _)) cn) fun a4 w4 b4 s4 => ?_
    have z4 := z3.below b4
    refine wp_seq ?_
    refine wp_seq ?_
    refine flowC mixed (s4.keep (sc 0 rfl (sc 2 rfl sn))) (by kernel_rfl) (by kernel_rfl) (cc rfl (p_move g0 (od rfl id))
        (cc rfl (p_bin g0 (od rfl id) (oc _) b_geq_28) cn)) fun a5 w5 b5 s5 => ?_
    have z5 := z4.below b5
    refine s5.cond 8 rfl (fun h8 => ?_) (fun h8 => ?_)
    · -- true
      have hx8 : 65536 ≤ x / 4294967296 := by have h2 := of_decide_eq_true h8; (try dsimp only at h2); omega
      refine wp_seq ?_
      refine flowT (s5.keep (sc 0 rfl (sc 2 rfl sn))) (by kernel_rfl) (cc rfl (p_move g0 (od rfl id))
          (cc rfl (p_binS (m' := ((x / 4294967296 / 65536 : Nat) : Int)) (by omega) g0 (od rfl id) (oc _) sh28b)
          (cc rfl (p_assign g0 (od rfl id)) cn))) fun a6 w6 b6 s6 => ?_
      have z6 := z5.below b6
      refine flowT (s6.keep (sc 0 rfl (sc 2 rfl sn))) (by kernel_rfl) (cc rfl (p_move g0 (od rfl id))
          (cc rfl (p_binS (m' := ((48 : Nat) : Int)) (by rw [IntKind.wrap_i64]; omega) g0 (od rfl id) (oc _) b_add_3)
          (cc rfl (p_assign g0 (od rfl id)) cn))) fun a7 w7 b7 s7 => ?_
      have z7 := z6.below b7
      refine wp_seq ?_
      refine wp_seq ?_
      refine flowC mixed (s7.keep (sc 0 rfl (sc 2 rfl sn))) (by kernel_rfl) (by kernel_rfl) (cc rfl (p_move g0 (od rfl id))
          (cc rfl (p_bin g0 (od rfl id) (oc _) b_geq_28) cn)) fun a8 w8 b8 s8 => ?_
      have z8 := z7.below b8
      refine s8.cond 14 rfl (fun h14 => ?_) (fun h14 => ?_)
      · -- true
        have hx14 : 256 ≤ x / 4294967296 / 65536 := by have h2 := of_decide_eq_true h14; (try dsimp only at h2); omega
        refine wp_seq ?_
        refine flowT (s8.keep (sc 0 rfl (sc 2 rfl sn))) (by kernel_rfl) (cc rfl (p_move g0 (od rfl id))
            (cc rfl (p_binS (m' := ((x / 4294967296 / 65536 / 256 : Nat) : Int)) (by omega) g0 (od rfl id) (oc _) sh28c)
            (cc rfl (p_assign g0 (od rfl id)) cn))) fun a9 w9 b9 s9 => ?_
        have z9 := z8.below b9
        refine flowT (s9.keep (sc 0 rfl (sc 2 rfl sn))) (by kernel_rfl) (cc rfl (p_move g0 (od rfl id))
            (cc rfl (p_binS (m' := ((56 : Nat) : Int)) (by rw [IntKind.wrap_i64]; omega) g0 (od rfl id) (oc _) b_add_3)
            (cc rfl (p_assign g0 (od rfl id)) cn))) fun a10 w10 b10 s10 => ?_
        have z10 := z9.below b10
        refine wp_seq ?_
        have htab := tab_ok ⟨x / 4294967296 / 65536 / 256, by omega⟩
        dsimp only at htab
        refine flowT (s10.keep (sc 0 rfl (sc 2 rfl sn))) (by kernel_rfl) (cc rfl (p_move g0 (od rfl id))
            (cc rfl (p_move g0 (od rfl id))
            (cc rfl (p_conv g0 (od rfl id) (cv285 (by omega)))
            (cc rfl (p_tab (by kernel_rfl) (by omega) g0 (od rfl id))
            (cc rfl (p_conv g0 (od rfl id) (cv53 (by omega)))
            (cc rfl (p_binS (m' := ((56 + (Lib.len8tab[x / 4294967296 / 65536 / 256]!).toNat : Nat) : Int)) (by rw [IntKind.wrap_i64]; omega) g0 (od rfl id) (od rfl id) b_add_3)
            (cc rfl (p_assign g0 (od rfl id)) cn))))))) fun a11 w11 b11 s11 => ?_
        have z11 := z10.below b11
        exact wp_ret (ret_o (fn := Try.f87) (R := fun v w' => ∃ L : Nat, v = .int .i64 (L : Int) ∧ (1 ≤ x → 2 ^ L ≤ 2 * x) ∧ L ≤ 64 ∧ Below w.heap.size w w') s11 2 rfl rfl ⟨_, rfl, fun hx1 => len_pow (y := x / 4294967296 / 65536 / 256) (by omega) (by omega) (htab.1 (by omega)), by omega, z11.to_below (fun _ _ h => h) (Nat.le_refl _)⟩)
      · -- false
        have hx14 : x / 4294967296 / 65536 < 256 := by have h2 := of_decide_eq_false h14; (try dsimp only at h2); omega
        refine wp_skip ?_
        refine wp_seq ?_
        have htab := tab_ok ⟨x / 4294967296 / 65536, by omega⟩
        dsimp only at htab
        refine flowT (s8.keep (sc 0 rfl (sc 2 rfl sn))) (by kernel_rfl) (cc rfl (p_move g0 (od rfl id))
            (cc rfl (p_move g0 (od rfl id))
            (cc rfl (p_conv g0 (od rfl id) (cv285 (by omega)))
            (cc rfl (p_tab (by kernel_rfl) (by omega) g0 (od rfl id))
            (cc rfl (p_conv g0 (od rfl id) (cv53 (by omega)))
            (cc rfl (p_binS (m' := ((48 + (Lib.len8tab[x / 4294967296 / 65536]!).toNat : Nat) : Int)) (by rw [IntKind.wrap_i64]; omega) g0 (od rfl id) (od rfl id) b_add_3)
            (cc rfl (p_assign g0 (od rfl id)) cn))))))) fun a12 w12 b12 s12 => ?_
        have z12 := z8.below b12
        exact wp_ret (ret_o (fn := Try.f87) (R := fun v w' => ∃ L : Nat, v = .int .i64 (L : Int) ∧ (1 ≤ x → 2 ^ L ≤ 2 * x) ∧ L ≤ 64 ∧ Below w.heap.size w w') s12 2 rfl rfl ⟨_, rfl, fun hx1 => len_pow (y := x / 4294967296 / 65536) (by omega) (by omega) (htab.1 (by omega)), by omega, z12.to_below (fun _ _ h => h) (Nat.le_refl _)⟩)
    · -- false
      have hx8 : x / 4294967296 < 65536 := by have h2 := of_decide_eq_false h8; (try dsimp only at h2); omega
      refine wp_skip ?_
      refine wp_seq ?_
      refine wp_seq ?_
      refine flowC mixed (s5.keep (sc 0 rfl (sc 2 rfl sn))) (by kernel_rfl) (by kernel_rfl) (cc rfl (p_move g0 (od rfl id))
          (cc rfl (p_bin g0 (od rfl id) (oc _) b_geq_28) cn)) fun a13 w13 b13 s13 => ?_
      have z13 := z5.below b13
      refine s13.cond 14 rfl (fun h14 => ?_) (fun h14 => ?_)
      · -- true
        have hx14 : 256 ≤ x / 4294967296 := by have h2 := of_decide_eq_true h14; (try dsimp only at h2); omega
        refine wp_seq ?_
        refine flowT (s13.keep (sc 0 rfl (sc 2 rfl sn))) (by kernel_rfl) (cc rfl (p_move g0 (od rfl id))
            (cc rfl (p_binS (m' := ((x / 4294967296 / 256 : Nat) : Int)) (by omega) g0 (od rfl id) (oc _) sh28c)
            (cc rfl (p_assign g0 (od rfl id)) cn))) fun a14 w14 b14 s14 => ?_
        have z14 := z13.below b14
        refine flowT (s14.keep (sc 0 rfl (sc 2 rfl sn))) (by kernel_rfl) (cc rfl (p_move g0 (od rfl id))
            (cc rfl (p_binS (m' := ((40 : Nat) : Int)) (by rw [IntKind.wrap_i64]; omega) g0 (od rfl id) (oc _) b_add_3)
            (cc rfl (p_assign g0 (od rfl id)) cn))) fun a15 w15 b15 s15 => ?_
        have z15 := z14.below b15
        refine wp_seq ?_
        have htab := tab_ok ⟨x / 4294967296 / 256, by omega⟩
        dsimp only at htab
        refine flowT (s15.keep (sc 0 rfl (sc 2 rfl sn))) (by kernel_rfl) (cc rfl (p_move g0 (od rfl id))
            (cc rfl (p_move g0 (od rfl id))
            (cc rfl (p_conv g0 (od rfl id) (cv285 (by omega)))
            (cc rfl (p_tab (by kernel_rfl) (by omega) g0 (od rfl id))
            (cc rfl (p_conv g0 (od rfl id) (cv53 (by omega)))
            (cc rfl (p_binS (m' := ((40 + (Lib.len8tab[x / 4294967296 / 256]!).toNat : Nat) : Int)) (by rw [IntKind.wrap_i64]; omega) g0 (od rfl id) (od rfl id) b_add_3)
            (cc rfl (p_assign g0 (od rfl id)) cn))))))) fun a16 w16 b16 s16 => ?_
        have z16 := z15.below b16
        exact wp_ret (ret_o (fn := Try.f87) (R := fun v w' => ∃ L : Nat, v = .int .i64 (L : Int) ∧ (1 ≤ x → 2 ^ L ≤ 2 * x) ∧ L ≤ 64 ∧ Below w.heap.size w w') s16 2 rfl rfl ⟨_, rfl, fun hx1 => len_pow (y := x / 4294967296 / 256) (by omega) (by omega) (htab.1 (by omega)), by omega, z16.to_below (fun _ _ h => h) (Nat.le_refl _)⟩)
      · -- false
        have hx14 : x / 4294967296 < 256 := by have h2 := of_decide_eq_false h14; (try dsimp only at h2); omega
        refine wp_skip ?_
        refine wp_seq ?_
        have htab := tab_ok ⟨x / 4294967296, by omega⟩
        dsimp only at htab
        refine flowT (s13.keep (sc 0 rfl (sc 2 rfl sn))) (by kernel_rfl) (cc rfl (p_move g0 (od rfl id))
            (cc rfl (p_move g0 (od rfl id))
            (cc rfl (p_conv g0 (od rfl id) (cv285 (by omega)))
            (cc rfl (p_tab (by kernel_rfl) (by omega) g0 (od rfl id))
            (cc rfl (p_conv g0 (od rfl id) (cv53 (by omega)))
            (cc rfl (p_binS (m' := ((32 + (Lib.len8tab[x / 4294967296]!).toNat : Nat) : Int)) (by rw [IntKind.wrap_i64]; omega) g0 (od rfl id) (od rfl id) b_add_3)
            (cc rfl (p_assign g0 (od rfl id)) cn))))))) fun a17 w17 b17 s17 => ?_
        have z17 := z13.below b17
        exact wp_ret (ret_o (fn := Try.f87) (R := fun v w' => ∃ L : Nat, v = .int .i64 (L : Int) ∧ (1 ≤ x → 2 ^ L ≤ 2 * x) ∧ L ≤ 64 ∧ Below w.heap.size w w') s17 2 rfl rfl ⟨_, rfl, fun hx1 => len_pow (y := x / 4294967296) (by omega) (by omega) (htab.1 (by omega)), by omega, z17.to_below (fun _ _ h => h) (Nat.le_refl _)⟩)
  · -- false
    have hx4 : x < 4294967296 := by have h2 := of_decide_eq_false h4; (try dsimp only at h2); omega
    refine wp_skip ?_
    refine wp_seq ?_
    refine wp_seq ?_
    refine flowC mixed (s2.keep (sc 0 rfl (sc 2 rfl sn))) (by kernel_rfl) (by kernel_rfl) (cc rfl (p_move g0 (od rfl id))
        (cc rfl (p_bin g0 (od rfl id) (oc _) b_geq_28) cn)) fun a18 w18 b18 s18 => ?_
    have z18 := z2.below b18
    refine s18.cond 8 rfl (fun h8 => ?_) (fun h8 => ?_)
    · -- true
      have hx8 : 65536 ≤ x := by have h2 := of_decide_eq_true h8; (try dsimp only at h2); omega
      refine wp_seq ?_
      refine flowT (s18.keep (sc 0 rfl (sc 2 rfl sn))) (by kernel_rfl) (cc rfl (p_move g0 (od rfl id))
          (cc rfl (p_binS (m' := ((x / 65536 : Nat) : Int)) (by omega) g0 (od rfl id) (oc _) sh28b)
          (cc rfl (p_assign g0 (od rfl id)) cn))) fun a19 w19 b19 s19 => ?_
      have z19 := z18.below b19
      refine flowT (s19.keep (sc 0 rfl (sc 2 rfl sn))) (by kernel_rfl) (cc rfl (p_move g0 (od rfl id))
          (cc rfl (p_binS (m' := ((16 : Nat) : Int)) (by rw [IntKind.wrap_i64]; omega) g0 (od rfl id) (oc _) b_add_3)
          (cc rfl (p_assign g0 (od rfl id)) cn))) fun a20 w20 b20 s20 => ?_
      have z20 := z19.below b20
      refine wp_seq ?_
      refine wp_seq ?_
      refine flowC mixed (s20.keep (sc 0 rfl (sc 2 rfl sn))) (by kernel_rfl) (by kernel_rfl) (cc rfl (p_move g0 (od rfl id))
          (cc rfl (p_bin g0 (od rfl id) (oc _) b_geq_28) cn)) fun a21 w21 b21 s21 => ?_
      have z21 := z20.below b21
      refine s21.cond 14 rfl (fun h14 => ?_) (fun h14 => ?_)
      · -- true
        have hx14 : 256 ≤ x / 65536 := by have h2 := of_decide_eq_true h14; (try dsimp only at h2); omega
        refine wp_seq ?_
        refine flowT (s21.keep (sc 0 rfl (sc 2 rfl sn))) (by kernel_rfl) (cc rfl (p_move g0 (od rfl id))
            (cc rfl (p_binS (m' := ((x / 65536 / 256 : Nat) : Int)) (by omega) g0 (od rfl id) (oc _) sh28c)
            (cc rfl (p_assign g0 (od rfl id)) cn))) fun a22 w22 b22 s22 => ?_
        have z22 := z21.below b22
        refine flowT (s22.keep (sc 0 rfl (sc 2 rfl sn))) (by kernel_rfl) (cc rfl (p_move g0 (od rfl id))
            (cc rfl (p_binS (m' := ((24 : Nat) : Int)) (by rw [IntKind.wrap_i64]; omega) g0 (od rfl id) (oc _) b_add_3)
            (cc rfl (p_assign g0 (od rfl id)) cn))) fun a23 w23 b23 s23 => ?_
        have z23 := z22.below b23
        refine wp_seq ?_
        have htab := tab_ok ⟨x / 65536 / 256, by omega⟩
        dsimp only at htab
        refine flowT (s23.keep (sc 0 rfl (sc 2 rfl sn))) (by kernel_rfl) (cc rfl (p_move g0 (od rfl id))
            (cc rfl (p_move g0 (od rfl id))
            (cc rfl (p_conv g0 (od rfl id) (cv285 (by omega)))
            (cc rfl (p_tab (by kernel_rfl) (by omega) g0 (od rfl id))
            (cc rfl (p_conv g0 (od rfl id) (cv53 (by omega)))
            (cc rfl (p_binS (m' := ((24 + (Lib.len8tab[x / 65536 / 256]!).toNat : Nat) : Int)) (by rw [IntKind.wrap_i64]; omega) g0 (od rfl id) (od rfl id) b_add_3)
            (cc rfl (p_assign g0 (od rfl id)) cn))))))) fun a24 w24 b24 s24 => ?_
        have z24 := z23.below b24
        exact wp_ret (ret_o (fn := Try.f87) (R := fun v w' => ∃ L : Nat, v = .int .i64 (L : Int) ∧ (1 ≤ x → 2 ^ L ≤ 2 * x) ∧ L ≤ 64 ∧ Below w.heap.size w w') s24 2 rfl rfl ⟨_, rfl, fun hx1 => len_pow (y := x / 65536 / 256) (by omega) (by omega) (htab.1 (by omega)), by omega, z24.to_below (fun _ _ h => h) (Nat.le_refl _)⟩)
      · -- false
        have hx14 : x / 65536 < 256 := by have h2 := of_decide_eq_false h14; (try dsimp only at h2); omega
        refine wp_skip ?_
        refine wp_seq ?_
        have htab := tab_ok ⟨x / 65536, by omega⟩
        dsimp only at htab
        refine flowT (s21.keep (sc 0 rfl (sc 2 rfl sn))) (by kernel_rfl) (cc rfl (p_move g0 (od rfl id))
            (cc rfl (p_move g0 (od rfl id))
            (cc rfl (p_conv g0 (od rfl id) (cv285 (by omega)))
            (cc rfl (p_tab (by kernel_rfl) (by omega) g0 (od rfl id))
            (cc rfl (p_conv g0 (od rfl id) (cv53 (by omega)))
            (cc rfl (p_binS (m' := ((16 + (Lib.len8tab[x / 65536]!).toNat : Nat) : Int)) (by rw [IntKind.wrap_i64]; omega) g0 (od rfl id) (od rfl id) b_add_3)
            (cc rfl (p_assign g0 (od rfl id)) cn))))))) fun a25 w25 b25 s25 => ?_
        have z25 := z21.below b25
        exact wp_ret (ret_o (fn := Try.f87) (R := fun v w' => ∃ L : Nat, v = .int .i64 (L : Int) ∧ (1 ≤ x → 2 ^ L ≤ 2 * x) ∧ L ≤ 64 ∧ Below w.heap.size w w') s25 2 rfl rfl ⟨_, rfl, fun hx1 => len_pow (y := x / 65536) (by omega) (by omega) (htab.1 (by omega)), by omega, z25.to_below (fun _ _ h => h) (Nat.le_refl _)⟩)
    · -- false
      have hx8 : x < 65536 := by have h2 := of_decide_eq_false h8; (try dsimp only at h2); omega
      refine wp_skip ?_
      refine wp_seq ?_
      refine wp_seq ?_
      refine flowC mixed (s18.keep (sc 0 rfl (sc 2 rfl sn))) (by kernel_rfl) (by kernel_rfl) (cc rfl (p_move g0 (od rfl id))
          (cc rfl (p_bin g0 (od rfl id) (oc _) b_geq_28) cn)) fun a26 w26 b26 s26 => ?_
      have z26 := z18.below b26
      refine s26.cond 14 rfl (fun h14 => ?_) (fun h14 => ?_)
      · -- true
        have hx14 : 256 ≤ x := by have h2 := of_decide_eq_true h14; (try dsimp only at h2); omega
        refine wp_seq ?_
        refine flowT (s26.keep (sc 0 rfl (sc 2 rfl sn))) (by kernel_rfl) (cc rfl (p_move g0 (od rfl id))
            (cc rfl (p_binS (m' := ((x / 256 : Nat) : Int)) (by omega) g0 (od rfl id) (oc _) sh28c)
            (cc rfl (p_assign g0 (od rfl id)) cn))) fun a27 w27 b27 s27 => ?_
        have z27 := z26.below b27
        refine flowT (s27.keep (sc 0 rfl (sc 2 rfl sn))) (by kernel_rfl) (cc rfl (p_move g0 (od rfl id))
            (cc rfl (p_binS (m' := ((8 : Nat) : Int)) (by rw [IntKind.wrap_i64]; omega) g0 (od rfl id) (oc _) b_add_3)
            (cc rfl (p_assign g0 (od rfl id)) cn))) fun a28 w28 b28 s28 => ?_
        have z28 := z27.below b28
        refine wp_seq ?_
        have htab := tab_ok ⟨x / 256, by omega⟩
        dsimp only at htab
        refine flowT (s28.keep (sc 0 rfl (sc 2 rfl sn))) (by kernel_rfl) (cc rfl (p_move g0 (od rfl id))
            (cc rfl (p_move g0 (od rfl id))
            (cc rfl (p_conv g0 (od rfl id) (cv285 (by omega)))
            (cc rfl (p_tab (by kernel_rfl) (by omega) g0 (od rfl id))
            (cc rfl (p_conv g0 (od rfl id) (cv53 (by omega)))
            (cc rfl (p_binS (m' := ((8 + (Lib.len8tab[x / 256]!).toNat : Nat) : Int)) (by rw [IntKind.wrap_i64]; omega) g0 (od rfl id) (od rfl id) b_add_3)
            (cc rfl (p_assign g0 (od rfl id)) cn))))))) fun a29 w29 b29 s29 => ?_
        have z29 := z28.below b29
        exact wp_ret (ret_o (fn := Try.f87) (R := fun v w' => ∃ L : Nat, v = .int .i64 (L : Int) ∧ (1 ≤ x → 2 ^ L ≤ 2 * x) ∧ L ≤ 64 ∧ Below w.heap.size w w') s29 2 rfl rfl ⟨_, rfl, fun hx1 => len_pow (y := x / 256) (by omega) (by omega) (htab.1 (by omega)), by omega, z29.to_below (fun _ _ h => h) (Nat.le_refl _)⟩)
      · -- false
        have hx14 : x < 256 := by have h2 := of_decide_eq_false h14; (try dsimp only at h2); omega
        refine wp_skip ?_
        refine wp_seq ?_
        have htab := tab_ok ⟨x, by omega⟩
        dsimp only at htab
        refine flowT (s26.keep (sc 0 rfl (sc 2 rfl sn))) (by kernel_rfl) (cc rfl (p_move g0 (od rfl id))
            (cc rfl (p_move g0 (od rfl id))
            (cc rfl (p_conv g0 (od rfl id) (cv285 (by omega)))
            (cc rfl (p_tab (by kernel_rfl) (by omega) g0 (od rfl id))
            (cc rfl (p_conv g0 (od rfl id) (cv53 (by omega)))
            (cc rfl (p_binS (m' := ((0 + (Lib.len8tab[x]!).toNat : Nat) : Int)) (by rw [IntKind.wrap_i64]; omega) g0 (od rfl id) (od rfl id) b_add_3)
            (cc rfl (p_assign g0 (od rfl id)) cn))))))) fun a30 w30 b30 s30 => ?_
        have z30 := z26.below b30
        exact wp_ret (ret_o (fn := Try.f87) (R := fun v w' => ∃ L : Nat, v = .int .i64 (L : Int) ∧ (1 ≤ x → 2 ^ L ≤ 2 * x) ∧ L ≤ 64 ∧ Below w.heap.size w w') s30 2 rfl rfl ⟨_, rfl, fun hx1 => len_pow (y := x) (by omega) (by omega) (htab.1 (by omega)), by omega, z30.to_below (fun _ _ h => h) (Nat.le_refl _)⟩)
set_option maxRecDepth 100000 in
/-- bits.Len: how far it is off. -/
theorem cLenU {w : World} {x : Nat} (hx : x < 18446744073709551616) : Calls Try.prog 71 #[.int .u64 (x : Int)] w fun e w' => ∃ v, e = .returned v ∧ ∃ L : Nat, v = .int .i64 (L : Int) ∧ (1 ≤ x → 2 ^ L ≤ 2 * x) ∧ L ≤ 64 ∧ Below w.heap.size w w' := by
  have z0 : OnlyB (fun _ => False) w w := OnlyB.refl _ _
  go_enter Try.func71, Try.ntmps71
  refine wp_seq ?_
  refine flowC mixed (st0 (U := False) (N := 8) (e := [(0, true, .val (.int .u64 (x : Int)))]) (F := noF) rfl rfl (fok_no _ _) ⟨⟨rfl, rfl⟩, True.intro⟩) (by kernel_rfl) (by kernel_rfl) (cc rfl (p_assign g0 (oc _)) cn) fun a1 w1 b1 s1 => ?_
  have z1 := z0.below b1
  refine wp_seq ?_
  refine cond_false ?_
  refine wp_skip ?_
  refine wp_seq ?_
  refine wp_region_lit ?_
  refine with_st (s1.keep (sc 0 rfl sn)) fun s1 => ?_
  refine chainK 1 (cc rfl (p_move g0 (od rfl id)) cn) (by kernel_rfl) s1 fun a2 w2 b2 s2 => ?_
  have z2 := z1.below b2
  show wpList _ _ _ (_ :: _) _ _
  refine callR (R := fun v w' => ∃ L : Nat, v = .int .i64 (L : Int) ∧ (1 ≤ x → 2 ^ L ≤ 2 * x) ∧ L ≤ 64 ∧ Below w2.heap.size w2 w') [.tmp 6] [.int .u64 (x : Int)] s2 (by simp [Region.wanted]) (fun _ _ => by kernel_rfl) rfl (by decide) (ac (s2.get 6 rfl) an0) (cLen64 hx) vn fun v3 a3 w3 hR3 s3 => ?_
  obtain ⟨L, e3, hL1, hL2, hb3⟩ := hR3
  have z3 := z2.below hb3
  have s3 := s3.more 7 (y := .int .i64 (L : Int)) ((s3.get 7 rfl).trans e3)
  refine chainK 1 (cc rfl (p_assign g0 (od rfl id)) cn) (by kernel_rfl) s3 fun a4 w4 b4 s4 => ?_
  have z4 := z3.below b4
  refine wpList_done ?_
  exact wp_ret (ret_o (fn := Try.f71) (R := fun v w' => ∃ L : Nat, v = .int .i64 (L : Int) ∧ (1 ≤ x → 2 ^ L ≤ 2 * x) ∧ L ≤ 64 ∧ Below w.heap.size w w') s4 2 rfl rfl ⟨_, rfl, hL1, hL2, z4.to_below (fun _ _ h => h) (Nat.le_refl _)⟩)
set_option maxRecDepth 100000 in
/-- nextPowerOfTwo: how far it is off. -/
theorem cPow {w : World} {x : Nat} (h1 : 1 ≤ x) (hx : x < 4611686018427387904) : Calls Try.prog 93 #[.int .i64 (x : Int)] w fun e w' => ∃ v, e = .returned v ∧ ∃ M : Nat, v = .int .u64 (M : Int) ∧ 1 ≤ M ∧ M ≤ 2 * x ∧ Below w.heap.size w w' := by
  have z0 : OnlyB (fun _ => False) w w := OnlyB.refl _ _
  go_enter Try.func93, Try.ntmps93
  refine wp_seq ?_
  refine flowC mixed (st0 (U := False) (N := 7) (e := [(0, true, .val (.int .i64 (x : Int)))]) (F := noF) rfl rfl (fok_no _ _) ⟨⟨rfl, rfl⟩, True.intro⟩) (by kernel_rfl) (by kernel_rfl) (cc rfl (p_assign g0 (oc _)) cn) fun a1 w1 b1 s1 => ?_
  have z1 := z0.below b1
  refine wp_seq ?_
  refine wp_region_lit ?_
  refine with_st (s1.keep (sc 0 rfl sn)) fun s1 => ?_
  refine chainK 2 (cc rfl (p_move g0 (od rfl id))
      (cc rfl (p_conv g0 (od rfl id) (cv355 (by omega))) cn)) (by kernel_rfl) s1 fun a2 w2 b2 s2 => ?_
  have z2 := z1.below b2
  show wpList _ _ _ (_ :: _) _ _
  refine callR (R := fun v w' => ∃ L : Nat, v = .int .i64 (L : Int) ∧ (1 ≤ x → 2 ^ L ≤ 2 * x) ∧ L ≤ 64 ∧ Below w2.heap.size w2 w') [.tmp 4] [.int .u64 (x : Int)] s2 (by simp [Region.wanted]) (fun _ _ => by kernel_rfl) rfl (by decide) (ac (s2.get 4 rfl) an0) (cLenU (by omega)) vn fun v3 a3 w3 hR3 s3 => ?_
  obtain ⟨L, e3, hL1, hL2, hb3⟩ := hR3
  have hL := hL1 h1
  have hL3 : L < 64 := by
    rcases Nat.lt_or_ge L 64 with h | h
    · exact h
    · have := Nat.pow_le_pow_right (show 0 < 2 by omega) h
      omega
  have hL4 := Nat.two_pow_pos L
  have z3 := z2.below hb3
  have s3 := s3.more 5 (y := .int .i64 (L : Int)) ((s3.get 5 rfl).trans e3)
  refine chainK 2 (cc rfl (p_bin g0 (oc _) (od rfl id) (sl55 hL3))
      (cc rfl (p_assign g0 (od rfl id)) cn)) (by kernel_rfl) s3 fun a4 w4 b4 s4 => ?_
  have z4 := z3.below b4
  refine wpList_done ?_
  exact wp_ret (ret_o (fn := Try.f93) (R := fun v w' => ∃ M : Nat, v = .int .u64 (M : Int) ∧ 1 ≤ M ∧ M ≤ 2 * x ∧ Below w.heap.size w w') s4 2 rfl rfl ⟨2 ^ L, rfl, hL4, hL, z4.to_below (fun _ _ h => h) (Nat.le_refl _)⟩)
set_option maxRecDepth 100000 in
/-- xorshift.Next: a number. -/
theorem cNext {w : World} {X gr : Nat} (hX : X < 18446744073709551616) (hS : Blk w gr 152 #[.int .u64 (X : Int)]) : Calls Try.prog 94 #[ptrV gr] w fun e w' => ∃ v, e = .returned v ∧ ∃ y : Nat, y < 18446744073709551616 ∧ v = .int .u64 (y : Int) ∧ Blk w' gr 152 #[.int .u64 (y : Int)] ∧ OnlyB (fun i => i = gr) w w' := by
  have z0 : OnlyB (fun i => i = gr) w w := OnlyB.refl _ _
  go_enter Try.func94, Try.ntmps94
  refine wp_seq ?_
  refine flowC mixed (st0 (U := False) (N := 33) (e := [(0, true, .val (ptrV gr))]) (F := noF) rfl rfl (fok_no _ _) ⟨⟨rfl, rfl⟩, True.intro⟩) (by kernel_rfl) (by kernel_rfl) (cc rfl (p_assign g0 (oc _)) cn) fun a1 w1 b1 s1 => ?_
  have z1 := z0.below b1
  have hS := hS.below b1 hS.lt
  refine wp_seq ?_
  obtain ⟨X1, hX1⟩ : ∃ X1, X1 = X ^^^ (X * 8192 % 18446744073709551616) := ⟨_, rfl⟩
  have hlX1 : X1 < 18446744073709551616 := by rw [hX1]; exact Nat.xor_lt_two_pow (n := 64) (by omega) (by omega)
  have s1 := s1.more 0 (y := .bp gr 152 #[.int .u64 (X : Int)] 0) (at_obj hS (s1.get 0 rfl))
  refine flowR 9 mixed (s1.keep (sc 0 rfl (sc 2 rfl sn))) (by kernel_rfl) (by kernel_rfl) (cc rfl (p_move g0 (od rfl id))
      (cc rfl (p_nilB g0 (od rfl id))
      (cc rfl (p_ldB ld_152 rfl g0 (od rfl id))
      (cc rfl (p_move g0 (od rfl id))
      (cc rfl (p_nilB g0 (od rfl id))
      (cc rfl (p_ldB ld_152 rfl g0 (od rfl id))
      (cc rfl (p_binS (m' := ((X * 8192 % 18446744073709551616 : Nat) : Int)) (by first | omega | (rw [IntKind.wrap_u64]; omega)) g0 (od rfl id) (oc _) sl152a)
      (cc rfl (p_binS (m' := (X1 : Int)) (by rw [hX1]; exact bits_xor_u64_nat _ _ (by omega) (by omega)) g0 (od rfl id) (od rfl id) xo152)
      (cc rfl (p_nilB g0 (od rfl id)) cn))))))))) fun a2 w2 b2 s2 => ?_
  have z2 := z1.below b2
  have hS := hS.below b2 hS.lt
  show wpList _ _ _ (_ :: _) _ _
  have s2 := s2.more 0 (y := .val (ptrV gr)) (s2.get 0 rfl).1
  refine cells_on (k := 0) (vs := [.int .u64 (X1 : Int)]) s2 rfl rfl rfl (s2.get 11 rfl).1 (s2.get 10 rfl) rfl hS (by simp) (by kernel_rfl) (fun u hu => by rw [List.mem_singleton.1 hu]; rfl) (vv 0 rfl vn) fun a3 w3 hS gS s3 => ?_
  have hS : Blk _ gr 152 #[.int .u64 (X1 : Int)] := hS
  have z3 := z2.grown gS (fun x _ e => by injection e with e; exact e.symm)
  refine wpList_done ?_
  refine wp_seq ?_
  obtain ⟨X2, hX2⟩ : ∃ X2, X2 = X1 ^^^ (X1 / 128) := ⟨_, rfl⟩
  have hlX2 : X2 < 18446744073709551616 := by rw [hX2]; exact Nat.xor_lt_two_pow (n := 64) (by omega) (by omega)
  have s3 := s3.more 0 (y := .bp gr 152 #[.int .u64 (X1 : Int)] 0) (at_obj hS (s3.get 0 rfl))
  refine flowR 9 mixed (s3.keep (sc 0 rfl sn)) (by kernel_rfl) (by kernel_rfl) (cc rfl (p_move g0 (od rfl id))
      (cc rfl (p_nilB g0 (od rfl id))
      (cc rfl (p_ldB ld_152 rfl g0 (od rfl id))
      (cc rfl (p_move g0 (od rfl id))
      (cc rfl (p_nilB g0 (od rfl id))
      (cc rfl (p_ldB ld_152 rfl g0 (od rfl id))
      (cc rfl (p_binS (m' := ((X1 / 128 : Nat) : Int)) (by first | omega | (rw [IntKind.wrap_u64]; omega)) g0 (od rfl id) (oc _) sh152)
      (cc rfl (p_binS (m' := (X2 : Int)) (by rw [hX2]; exact bits_xor_u64_nat _ _ (by omega) (by omega)) g0 (od rfl id) (od rfl id) xo152)
      (cc rfl (p_nilB g0 (od rfl id)) cn))))))))) fun a4 w4 b4 s4 => ?_
  have z4 := z3.below b4
  have hS := hS.below b4 hS.lt
  show wpList _ _ _ (_ :: _) _ _
  have s4 := s4.more 0 (y := .val (ptrV gr)) (s4.get 0 rfl).1
  refine cells_on (k := 0) (vs := [.int .u64 (X2 : Int)]) s4 rfl rfl rfl (s4.get 20 rfl).1 (s4.get 19 rfl) rfl hS (by simp) (by kernel_rfl) (fun u hu => by rw [List.mem_singleton.1 hu]; rfl) (vv 0 rfl vn) fun a5 w5 hS gS s5 => ?_
  have hS : Blk _ gr 152 #[.int .u64 (X2 : Int)] := hS
  have z5 := z4.grown gS (fun x _ e => by injection e with e; exact e.symm)
  refine wpList_done ?_
  refine wp_seq ?_
  obtain ⟨X3, hX3⟩ : ∃ X3, X3 = X2 ^^^ (X2 * 131072 % 18446744073709551616) := ⟨_, rfl⟩
  have hlX3 : X3 < 18446744073709551616 := by rw [hX3]; exact Nat.xor_lt_two_pow (n := 64) (by omega) (by omega)
  have s5 := s5.more 0 (y := .bp gr 152 #[.int .u64 (X2 : Int)] 0) (at_obj hS (s5.get 0 rfl))
  refine flowR 9 mixed (s5.keep (sc 0 rfl sn)) (by kernel_rfl) (by kernel_rfl) (cc rfl (p_move g0 (od rfl id))
      (cc rfl (p_nilB g0 (od rfl id))
      (cc rfl (p_ldB ld_152 rfl g0 (od rfl id))
      (cc rfl (p_move g0 (od rfl id))
      (cc rfl (p_nilB g0 (od rfl id))
      (cc rfl (p_ldB ld_152 rfl g0 (od rfl id))
      (cc rfl (p_binS (m' := ((X2 * 131072 % 18446744073709551616 : Nat) : Int)) (by first | omega | (rw [IntKind.wrap_u64]; omega)) g0 (od rfl id) (oc _) sl152b)
      (cc rfl (p_binS (m' := (X3 : Int)) (by rw [hX3]; exact bits_xor_u64_nat _ _ (by omega) (by omega)) g0 (od rfl id) (od rfl id) xo152)
      (cc rfl (p_nilB g0 (od rfl id)) cn))))))))) fun a6 w6 b6 s6 => ?_
  have z6 := z5.below b6
  have hS := hS.below b6 hS.lt
  show wpList _ _ _ (_ :: _) _ _
  have s6 := s6.more 0 (y := .val (ptrV gr)) (s6.get 0 rfl).1
  refine cells_on (k := 0) (vs := [.int .u64 (X3 : Int)]) s6 rfl rfl rfl (s6.get 29 rfl).1 (s6.get 28 rfl) rfl hS (by simp) (by kernel_rfl) (fun u hu => by rw [List.mem_singleton.1 hu]; rfl) (vv 0 rfl vn) fun a7 w7 hS gS s7 => ?_
  have hS : Blk _ gr 152 #[.int .u64 (X3 : Int)] := hS
  have z7 := z6.grown gS (fun x _ e => by injection e with e; exact e.symm)
  refine wpList_done ?_
  refine wp_seq ?_
  have s7 := s7.more 0 (y := .bp gr 152 #[.int .u64 (X3 : Int)] 0) (at_obj hS (s7.get 0 rfl))
  refine flowC mixed (s7.keep (sc 0 rfl sn)) (by kernel_rfl) (by kernel_rfl) (cc rfl (p_move g0 (od rfl id))
      (cc rfl (p_nilB g0 (od rfl id))
      (cc rfl (p_ldB ld_152 rfl g0 (od rfl id))
      (cc rfl (p_assign g0 (od rfl id)) cn)))) fun a8 w8 b8 s8 => ?_
  have z8 := z7.below b8
  have hS := hS.below b8 hS.lt
  exact wp_ret (ret_o (fn := Try.f94) (R := fun v w' => ∃ y : Nat, y < 18446744073709551616 ∧ v = .int .u64 (y : Int) ∧ Blk w' gr 152 #[.int .u64 (y : Int)] ∧ OnlyB (fun i => i = gr) w w') s8 2 rfl rfl ⟨X3, hlX3, rfl, hS, z8⟩)
set_option maxRecDepth 100000 in

/-- breakPatternsOrdered at uint64: some other order. -/
theorem cBrk {w : World} {g cap n : Nat} {d : Array Int} {a b : Nat} (hD : RowD w g cap n d) (hn : n < 4611686018427387904) (hab : a + 12 < b) (hb : b ≤ n) : Calls Try.prog 80 #[slD g n cap, .int .i64 (a : Int), .int .i64 (b : Int)] w fun e w' => e = .returned (.tuple #[]) ∧ ∃ d' : Array Int, PermIn a b d d' ∧ RowD w' g cap n d' ∧ OnlyB (fun i => i = g) w w' := by
  have z0 : OnlyB (fun i => i = g) w w := OnlyB.refl _ _
  go_enter Try.func80, Try.ntmps80
  refine wp_seq ?_
  refine flowC mixed (st0 (U := False) (N := 65) (e := [(0, true, .val (slD g n cap)), (1, true, .val (.int .i64 (a : Int))), (2, true, .val (.int .i64 (b : Int)))]) (F := noF) rfl rfl (fok_no _ _) ⟨⟨rfl, rfl⟩, ⟨⟨rfl, rfl⟩, ⟨⟨rfl, rfl⟩, True.intro⟩⟩⟩) (by kernel_rfl) (by kernel_rfl) (cc rfl (p_move g0 (od rfl id))
      (cc rfl (p_move g0 (od rfl id))
      (cc rfl (p_binC (m' := ((b - a : Nat) : Int)) (fun _ => by rw [IntKind.wrap_i64]; omega) g0 (od rfl id) (od rfl id) b_sub_3)
      (cc rfl (p_assign g0 (od rfl id)) cn)))) fun a1 w1 b1 s1 => ?_
  have z1 := z0.below b1
  have hD := hD.below b1
  refine wp_seq ?_
  refine flowC mixed (s1.keep (sc 0 rfl (sc 1 rfl (sc 6 rfl sn)))) (by kernel_rfl) (by kernel_rfl) (cc rfl (p_move g0 (od rfl id))
      (cc rfl (p_bin g0 (od rfl id) (oc _) b_geq_3) cn)) fun a2 w2 b2 s2 => ?_
  have z2 := z1.below b2
  have hD := hD.below b2
  refine s2.cond 15 rfl (fun _ => ?_) (fun h => absurd h (by simp; omega))
  refine wp_seq ?_
  refine wp_region_lit ?_
  refine with_st (s2.keep (sc 0 rfl (sc 1 rfl (sc 6 rfl sn)))) fun s2 => ?_
  refine chainK 2 (cc rfl (p_move g0 (od rfl id))
      (cc rfl (p_conv g0 (od rfl id) (cv3152 (by omega))) cn)) (by kernel_rfl) s2 fun a3 w3 b3 s3 => ?_
  have z3 := z2.below b3
  have hD := hD.below b3
  show wpList _ _ _ (_ :: _) _ _
  refine alloc_on (u := 152) (z := #[.int .u64 0]) s3 (by simp [Region.wanted]) rfl (by decide) (al_152 _ _) (vv 0 rfl (vv 1 rfl (vv 6 rfl (vv 17 rfl vn)))) fun gr a4 w4 hS hgr b4 s4 => ?_
  have hgr := Nat.le_trans z3.size hgr
  have z4 := z3.below b4
  have hD := hD.below b4
  have hne := hD.ne hS (by decide)
  show wpList _ _ _ (_ :: _) _ _
  refine cells_on (k := 0) (vs := [.int .u64 ((b - a : Nat) : Int)]) s4 rfl rfl rfl (s4.get 7 rfl) (s4.get 17 rfl) rfl hS (by simp) (by kernel_rfl) (fun u hu => by rw [List.mem_singleton.1 hu]; rfl) (vv 0 rfl (vv 1 rfl (vv 6 rfl (vv 7 rfl vn)))) fun a5 w5 hS gS s5 => ?_
  have hS : Blk _ gr 152 #[.int .u64 ((b - a : Nat) : Int)] := hS
  have hD := hD.grown gS (fun e => hne (by injection e))
  have z5 := z4.grown gS (fun x h1 e => by injection e with e; omega)
  refine wpList_done ?_
  refine wp_seq ?_
  refine wp_region_lit ?_
  refine with_st (s5.keep (sc 0 rfl (sc 1 rfl (sc 6 rfl (sc 7 rfl sn))))) fun s5 => ?_
  refine chainK 1 (cc rfl (p_move g0 (od rfl id)) cn) (by kernel_rfl) s5 fun a6 w6 b6 s6 => ?_
  have z6 := z5.below b6
  have hD := hD.below b6
  have hS := hS.below b6 hS.lt
  show wpList _ _ _ (_ :: _) _ _
  refine callR (R := fun v w' => ∃ M : Nat, v = .int .u64 (M : Int) ∧ 1 ≤ M ∧ M ≤ 2 * (b - a) ∧ Below w6.heap.size w6 w') [.tmp 18] [.int .i64 ((b - a : Nat) : Int)] s6 (by simp [Region.wanted]) (fun _ _ => by kernel_rfl) rfl (by decide) (ac (s6.get 18 rfl) an0) (cPow (by omega) (by omega)) (vv 0 rfl (vv 1 rfl (vv 6 rfl (vv 7 rfl vn)))) fun v7 a7 w7 hR7 s7 => ?_
  obtain ⟨M, e7, hM1, hM2, hb7⟩ := hR7
  have hD := hD.below hb7
  have hS := hS.below hb7 hS.lt
  have z7 := z6.below hb7
  have s7 := s7.more 19 (y := .int .u64 (M : Int)) ((s7.get 19 rfl).trans e7)
  refine chainK 1 (cc rfl (p_assign g0 (od rfl id)) cn) (by kernel_rfl) s7 fun a8 w8 b8 s8 => ?_
  have z8 := z7.below b8
  have hD := hD.below b8
  have hS := hS.below b8 hS.lt
  refine wpList_done ?_
  refine wp_seq ?_
  refine flowC mixed (s8.keep (sc 0 rfl (sc 1 rfl (sc 6 rfl (sc 7 rfl (sc 8 rfl sn)))))) (by kernel_rfl) (by kernel_rfl) (cc rfl (p_move g0 (od rfl id))
      (cc rfl (p_move g0 (od rfl id))
      (cc rfl (p_binC (m' := (((b - a) / 4 : Nat) : Int)) (fun _ => rfl) g0 (od rfl id) (oc _) (b_quo_3 (a := (b - a)) (b := 4) (by omega) (by omega)))
      (cc rfl (p_binC (m' := (((b - a) / 4 * 2 : Nat) : Int)) (fun _ => by rw [IntKind.wrap_i64]; omega) g0 (od rfl id) (oc _) b_mul_3)
      (cc rfl (p_binC (m' := ((a + (b - a) / 4 * 2 : Nat) : Int)) (fun _ => by rw [IntKind.wrap_i64]; omega) g0 (od rfl id) (od rfl id) b_add_3)
      (cc rfl (p_binC (m' := ((a + (b - a) / 4 * 2 - 1 : Nat) : Int)) (fun _ => by rw [IntKind.wrap_i64]; omega) g0 (od rfl id) (oc _) b_sub_3)
      (cc rfl (p_assign g0 (od rfl id)) cn))))))) fun a9 w9 b9 s9 => ?_
  have z9 := z8.below b9
  have hD := hD.below b9
  have hS := hS.below b9 hS.lt
  refine wp_block ?_
  refine wp_loopK (fun k ac wr => ∃ (q X : Nat) (d' : Array Int), k = a + (b - a) / 4 * 2 + 2 - q ∧ a + (b - a) / 4 * 2 - 1 ≤ q ∧ q ≤ a + (b - a) / 4 * 2 + 2 ∧ X < 18446744073709551616 ∧ PermIn a b d d' ∧ RowD wr g cap n d' ∧ Blk wr gr 152 #[.int .u64 (X : Int)] ∧ OnlyB (fun i => i = g) w wr ∧ StE False 65 [(0, true, .val (slD g n cap)), (1, true, .val (.int .i64 (a : Int))), (6, true, .int .i64 ((b - a : Nat) : Int)), (7, true, .val (ptrV gr)), (8, true, .int .u64 (M : Int)), (9, true, .int .i64 (q : Int))] noF ac wr) (a + (b - a) / 4 * 2 + 2 - (a + (b - a) / 4 * 2 - 1)) ⟨a + (b - a) / 4 * 2 - 1, b - a, d, rfl, by omega, by omega, by omega, Go.Sort.permIn_refl _ _ _, hD, hS, z9, s9.to _ ⟨rfl, rfl, rfl, rfl, rfl, rfl, True.intro⟩⟩ fun k a10 w10 hI => ?_
  obtain ⟨q, X, d1, rfl, hq1, hq2, hX, hP, hD, hS, z10, s10⟩ := hI
  refine wp_seq ?_
  refine wp_seq ?_
  refine flowC mixed (s10.keep (sc 0 rfl (sc 1 rfl (sc 6 rfl (sc 7 rfl (sc 8 rfl (sc 9 rfl sn))))))) (by kernel_rfl) (by kernel_rfl) (cc rfl (p_move g0 (od rfl id))
      (cc rfl (p_move g0 (od rfl id))
      (cc rfl (p_move g0 (od rfl id))
      (cc rfl (p_binC (m' := (((b - a) / 4 : Nat) : Int)) (fun _ => rfl) g0 (od rfl id) (oc _) (b_quo_3 (a := (b - a)) (b := 4) (by omega) (by omega)))
      (cc rfl (p_binC (m' := (((b - a) / 4 * 2 : Nat) : Int)) (fun _ => by rw [IntKind.wrap_i64]; omega) g0 (od rfl id) (oc _) b_mul_3)
      (cc rfl (p_binC (m' := ((a + (b - a) / 4 * 2 : Nat) : Int)) (fun _ => by rw [IntKind.wrap_i64]; omega) g0 (od rfl id) (od rfl id) b_add_3)
      (cc rfl (p_binC (m' := ((a + (b - a) / 4 * 2 + 1 : Nat) : Int)) (fun _ => by rw [IntKind.wrap_i64]; omega) g0 (od rfl id) (oc _) b_add_3)
      (cc rfl (p_bin g0 (od rfl id) (od rfl id) b_leq_3) cn)))))))) fun a11 w11 b11 s11 => ?_
  have z11 := z10.below b11
  have hD := hD.below b11
  have hS := hS.below b11 hS.lt
  refine s11.cond 33 rfl (fun h33 => ?_) (fun h33 => ?_)
  · -- true
    have hq3 : q ≤ a + (b - a) / 4 * 2 + 1 := by have h2 := of_decide_eq_true h33; (try dsimp only at h2); omega
    have hds := hD.size
    refine wp_skip ?_
    refine wp_seq ?_
    refine wp_block ?_
    refine wp_seq ?_
    refine wp_region_lit ?_
    refine with_st (s11.keep (sc 0 rfl (sc 1 rfl (sc 6 rfl (sc 7 rfl (sc 8 rfl (sc 9 rfl (sc 26 rfl (sc 27 rfl (sc 28 rfl (sc 29 rfl (sc 30 rfl (sc 31 rfl (sc 32 rfl (sc 33 rfl sn))))))))))))))) fun s11 => ?_
    show wpList _ _ _ (_ :: _) _ _
    refine callR (R := fun v w' => ∃ y : Nat, y < 18446744073709551616 ∧ v = .int .u64 (y : Int) ∧ Blk w' gr 152 #[.int .u64 (y : Int)] ∧ OnlyB (fun i => i = gr) w11 w') [.tmp 7] [ptrV gr] s11 (by simp [Region.wanted]) (fun _ _ => by kernel_rfl) rfl (by decide) (ac (s11.get 7 rfl) an0) (cNext hX hS) (vv 0 rfl (vv 1 rfl (vv 6 rfl (vv 7 rfl (vv 8 rfl (vv 9 rfl vn)))))) fun v12 a12 w12 hR12 s12 => ?_
    obtain ⟨Y, hY, e12, hS, hz12⟩ := hR12
    have hD := hD.only hz12 hne
    have z12 := z11.trans hz12 (fun x h1 h2 => by omega)
    have s12 := s12.more 36 (y := .int .u64 (Y : Int)) ((s12.get 36 rfl).trans e12)
    obtain ⟨O, hO⟩ : ∃ O, O = Y &&& (M - 1) := ⟨_, rfl⟩
    have hO1 : O ≤ M - 1 := by rw [hO]; exact Nat.and_le_right
    refine chainK 5 (cc rfl (p_move g0 (od rfl id))
        (cc rfl (p_binS (m' := ((M - 1 : Nat) : Int)) (by rw [IntKind.wrap_u64]; omega) g0 (od rfl id) (oc _) su55)
        (cc rfl (p_binS (m' := (O : Int)) (by rw [hO]; exact bits_and_u64_nat _ _ (by omega) (by omega)) g0 (od rfl id) (od rfl id) an55)
        (cc rfl (p_conv g0 (od rfl id) (cv553 (by omega)))
        (cc rfl (p_assign g0 (od rfl id)) cn))))) (by kernel_rfl) s12 fun a13 w13 b13 s13 => ?_
    have z13 := z12.below b13
    have hD := hD.below b13
    have hS := hS.below b13 hS.lt
    refine wpList_done ?_
    refine wp_seq ?_
    refine wp_seq ?_
    refine flowC mixed (s13.keep (sc 0 rfl (sc 1 rfl (sc 6 rfl (sc 7 rfl (sc 8 rfl (sc 9 rfl (sc 10 rfl (sc 36 rfl (sc 37 rfl (sc 38 rfl (sc 39 rfl (sc 40 rfl sn))))))))))))) (by kernel_rfl) (by kernel_rfl) (cc rfl (p_move g0 (od rfl id))
        (cc rfl (p_move g0 (od rfl id))
        (cc rfl (p_bin g0 (od rfl id) (od rfl id) b_geq_3) cn))) fun a14 w14 b14 s14 => ?_
    have z14 := z13.below b14
    have hD := hD.below b14
    have hS := hS.below b14 hS.lt
    refine s14.cond 43 rfl (fun h43 => ?_) (fun h43 => ?_)
    · -- true
      have hge : b - a ≤ O := by have h2 := of_decide_eq_true h43; (try dsimp only at h2); omega
      obtain ⟨O2, hO2⟩ : ∃ O2, O2 = O - (b - a) := ⟨_, rfl⟩
      have hO3 : O2 < b - a := by omega
      refine flowT (s14.keep (sc 0 rfl (sc 1 rfl (sc 6 rfl (sc 7 rfl (sc 8 rfl (sc 9 rfl (sc 10 rfl (sc 36 rfl (sc 37 rfl (sc 38 rfl (sc 39 rfl (sc 40 rfl (sc 41 rfl (sc 42 rfl (sc 43 rfl sn)))))))))))))))) (by kernel_rfl) (cc rfl (p_move g0 (od rfl id))
          (cc rfl (p_move g0 (od rfl id))
          (cc rfl (p_binC (m' := ((O2 : Nat) : Int)) (fun _ => by rw [IntKind.wrap_i64]; omega) g0 (od rfl id) (od rfl id) b_sub_3)
          (cc rfl (p_assign g0 (od rfl id)) cn)))) fun a15 w15 b15 s15 => ?_
      have z15 := z14.below b15
      have hD := hD.below b15
      have hS := hS.below b15 hS.lt
      refine flowD 17 63 58 (i := q) (z := d1[(a + O2)]!) (vv 0 rfl (vv 1 rfl (vv 6 rfl (vv 7 rfl (vv 8 rfl (vv 9 rfl (vv 10 rfl vn))))))) (by omega) s15 hD ⟨_, _, _, rfl⟩ (by kernel_rfl) (by kernel_rfl) (lc rfl (p_move g0 (od rfl id))
          (lc rfl (p_move g0 (od rfl id))
          (lc rfl (p_move g0 (od rfl id))
          (lc rfl (p_move g0 (od rfl id))
          (lc rfl (p_move g0 (od rfl id))
          (lc rfl (p_binC (m' := ((a + O2 : Nat) : Int)) (fun _ => by rw [IntKind.wrap_i64]; omega) g0 (od rfl id) (od rfl id) b_add_3)
          (lc rfl (p_move g0 (od rfl id))
          (lc rfl (p_move g0 (od rfl id))
          (lc rfl (p_move g0 (od rfl id))
          (lc rfl (p_binC (m' := ((a + O2 : Nat) : Int)) (fun _ => by rw [IntKind.wrap_i64]; omega) g0 (od rfl id) (od rfl id) b_add_3)
          (lc rfl (p_idxVD (i := (a + O2)) (by omega) g0 (od rfl id) (od rfl id))
          (ll rfl (p_ldL (i := (a + O2)) (by omega) g0 (od rfl id))
          (lc rfl (p_move g0 (od rfl id))
          (lc rfl (p_move g0 (od rfl id))
          (lc rfl (p_idxVD (i := q) (by omega) g0 (od rfl id) (od rfl id))
          (ll rfl (p_ldL (i := q) (by omega) g0 (od rfl id))
          (lc rfl (p_idxVD (i := q) (by omega) g0 (od rfl id) (od rfl id)) ln))))))))))))))))) (by kernel_rfl) rfl rfl (vv 0 rfl (vv 1 rfl (vv 6 rfl (vv 7 rfl (vv 8 rfl (vv 9 rfl (vv 10 rfl (vv 49 rfl (vv 52 rfl (vv 62 rfl vn)))))))))) fun a16 w16 hD gS s16 => ?_
      have hS := hS.grown gS (fun e => hne (by injection e with e; exact e.symm))
      have z16 := z15.grown gS (fun x _ e => by injection e with e; exact e.symm)
      refine chainK 1 (cc rfl (p_idxVD (i := (a + O2)) (by omega) g0 (od rfl id) (od rfl id)) cn) (by kernel_rfl) s16 fun a17 w17 b17 s17 => ?_
      have z17 := z16.below b17
      have hD := hD.below b17
      have hS := hS.below b17 hS.lt
      show wpList _ _ _ (_ :: _) _ _
      refine storeD_on (i := (a + O2)) (x := d1[q]!) s17 rfl rfl rfl (s17.get 64 rfl) (s17.get 62 rfl) hD (by omega) (vv 0 rfl (vv 1 rfl (vv 6 rfl (vv 7 rfl (vv 8 rfl (vv 9 rfl (vv 10 rfl vn))))))) fun a18 w18 hD gS s18 => ?_
      have hS := hS.grown gS (fun e => hne (by injection e with e; exact e.symm))
      have z18 := z17.grown gS (fun x _ e => by injection e with e; exact e.symm)
      have hD : RowD w18 g cap n (swp d1 q (a + O2)) := hD
      refine wpList_done ?_
      refine flowT (s18.keep (sc 0 rfl (sc 1 rfl (sc 6 rfl (sc 7 rfl (sc 8 rfl (sc 9 rfl (sc 10 rfl sn)))))))) (by kernel_rfl) (cc rfl (p_move g0 (od rfl id))
          (cc rfl (p_binC (m' := ((q + 1 : Nat) : Int)) (fun _ => by rw [IntKind.wrap_i64]; omega) g0 (od rfl id) (oc _) b_add_3)
          (cc rfl (p_assign g0 (od rfl id)) cn))) fun a19 w19 b19 s19 => ?_
      have z19 := z18.below b19
      have hD := hD.below b19
      have hS := hS.below b19 hS.lt
      exact ⟨a + (b - a) / 4 * 2 + 2 - (q + 1), by omega, q + 1, Y, _, rfl, by omega, by omega, hY, Go.Sort.permIn_trans _ _ _ a b hP (Go.Sort.swp_permIn d1 a b q (a + O2) (by omega) (by omega) (by omega) (by omega) (by rw [hds]; exact hb)), hD, hS, z19, s19.to _ ⟨rfl, rfl, rfl, rfl, rfl, rfl, True.intro⟩⟩
    · -- false
      have hge : O < b - a := by have h2 := of_decide_eq_false h43; (try dsimp only at h2); omega
      obtain ⟨O2, hO2⟩ : ∃ O2, O2 = O := ⟨_, rfl⟩
      have hO3 : O2 < b - a := by omega
      have s14 := s14.more 10 (y := .int .i64 (O2 : Int)) ((s14.get 10 rfl).trans (by rw [hO2]))
      refine wp_skip ?_
      refine flowD 17 63 58 (i := q) (z := d1[(a + O2)]!) (vv 0 rfl (vv 1 rfl (vv 6 rfl (vv 7 rfl (vv 8 rfl (vv 9 rfl (vv 10 rfl vn))))))) (by omega) s14 hD ⟨_, _, _, rfl⟩ (by kernel_rfl) (by kernel_rfl) (lc rfl (p_move g0 (od rfl id))
          (lc rfl (p_move g0 (od rfl id))
          (lc rfl (p_move g0 (od rfl id))
          (lc rfl (p_move g0 (od rfl id))
          (lc rfl (p_move g0 (od rfl id))
          (lc rfl (p_binC (m' := ((a + O2 : Nat) : Int)) (fun _ => by rw [IntKind.wrap_i64]; omega) g0 (od rfl id) (od rfl id) b_add_3)
          (lc rfl (p_move g0 (od rfl id))
          (lc rfl (p_move g0 (od rfl id))
          (lc rfl (p_move g0 (od rfl id))
          (lc rfl (p_binC (m' := ((a + O2 : Nat) : Int)) (fun _ => by rw [IntKind.wrap_i64]; omega) g0 (od rfl id) (od rfl id) b_add_3)
          (lc rfl (p_idxVD (i := (a + O2)) (by omega) g0 (od rfl id) (od rfl id))
          (ll rfl (p_ldL (i := (a + O2)) (by omega) g0 (od rfl id))
          (lc rfl (p_move g0 (od rfl id))
          (lc rfl (p_move g0 (od rfl id))
          (lc rfl (p_idxVD (i := q) (by omega) g0 (od rfl id) (od rfl id))
          (ll rfl (p_ldL (i := q) (by omega) g0 (od rfl id))
          (lc rfl (p_idxVD (i := q) (by omega) g0 (od rfl id) (od rfl id)) ln))))))))))))))))) (by kernel_rfl) rfl rfl (vv 0 rfl (vv 1 rfl (vv 6 rfl (vv 7 rfl (vv 8 rfl (vv 9 rfl (vv 10 rfl (vv 49 rfl (vv 52 rfl (vv 62 rfl vn)))))))))) fun a20 w20 hD gS s20 => ?_
      have hS := hS.grown gS (fun e => hne (by injection e with e; exact e.symm))
      have z20 := z14.grown gS (fun x _ e => by injection e with e; exact e.symm)
      refine chainK 1 (cc rfl (p_idxVD (i := (a + O2)) (by omega) g0 (od rfl id) (od rfl id)) cn) (by kernel_rfl) s20 fun a21 w21 b21 s21 => ?_
      have z21 := z20.below b21
      have hD := hD.below b21
      have hS := hS.below b21 hS.lt
      show wpList _ _ _ (_ :: _) _ _
      refine storeD_on (i := (a + O2)) (x := d1[q]!) s21 rfl rfl rfl (s21.get 64 rfl) (s21.get 62 rfl) hD (by omega) (vv 0 rfl (vv 1 rfl (vv 6 rfl (vv 7 rfl (vv 8 rfl (vv 9 rfl (vv 10 rfl vn))))))) fun a22 w22 hD gS s22 => ?_
      have hS := hS.grown gS (fun e => hne (by injection e with e; exact e.symm))
      have z22 := z21.grown gS (fun x _ e => by injection e with e; exact e.symm)
      have hD : RowD w22 g cap n (swp d1 q (a + O2)) := hD
      refine wpList_done ?_
      refine flowT (s22.keep (sc 0 rfl (sc 1 rfl (sc 6 rfl (sc 7 rfl (sc 8 rfl (sc 9 rfl (sc 10 rfl sn)))))))) (by kernel_rfl) (cc rfl (p_move g0 (od rfl id))
          (cc rfl (p_binC (m' := ((q + 1 : Nat) : Int)) (fun _ => by rw [IntKind.wrap_i64]; omega) g0 (od rfl id) (oc _) b_add_3)
          (cc rfl (p_assign g0 (od rfl id)) cn))) fun a23 w23 b23 s23 => ?_
      have z23 := z22.below b23
      have hD := hD.below b23
      have hS := hS.below b23 hS.lt
      exact ⟨a + (b - a) / 4 * 2 + 2 - (q + 1), by omega, q + 1, Y, _, rfl, by omega, by omega, hY, Go.Sort.permIn_trans _ _ _ a b hP (Go.Sort.swp_permIn d1 a b q (a + O2) (by omega) (by omega) (by omega) (by omega) (by rw [hds]; exact hb)), hD, hS, z23, s23.to _ ⟨rfl, rfl, rfl, rfl, rfl, rfl, True.intro⟩⟩
  · -- false
    refine wp_exit ?_
    exact end_n (fn := Try.f80) (R := fun w' => ∃ d' : Array Int, PermIn a b d d' ∧ RowD w' g cap n d' ∧ OnlyB (fun i => i = g) w w') s11 rfl ⟨_, hP, hD, z11⟩

end Go.Proofs.Ytbeeiecbbmiojaa.Y
