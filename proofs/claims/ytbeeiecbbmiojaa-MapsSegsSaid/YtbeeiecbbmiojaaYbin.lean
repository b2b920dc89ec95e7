/- Ybin: slices.BinarySearch at numbers -/
import Derived.Test.YtbeeiecbbmiojaaYseg
import Derived.Test.YtbeeiecbbmiojaaRowsU
namespace Go.Proofs.Ytbeeiecbbmiojaa.Y
open Go.RowKit Go.ChangeShapes Go.WideShapes Go.ChangeAt

section
variable {d : Nat} {t : TypeId} {p : String} {af : Array Edge} {g : Option (Nat × Bool)} {x x2 : Operand}
theorem cv_3_55 {a : Int} : Run1 Try.prog ⟨some d, .convert 3 55 x, t, p, af, g⟩ x (.int .i64 a) (.int .u64 (IntKind.u64.wrap a)) := fun ev w h1 => by go_simp
theorem cv_55_3 {a : Int} : Run1 Try.prog ⟨some d, .convert 55 3 x, t, p, af, g⟩ x (.int .u64 a) (.int .i64 (IntKind.i64.wrap a)) := fun ev w h1 => by go_simp
theorem b_half {a : Int} : Run2 Try.prog ⟨some d, .binOp .shr 55 x x2 55, t, p, af, g⟩ x x2 (.int .u64 a) (.int .u64 1) (.int .u64 (a / 2)) := fun ev w h1 h2 => by go_simp
theorem bs_29 {z : Int} : ∀ (ev : Operand → Value) (w : World), ev x = .int .u64 z → (execOp ev ⟨some d, .buildSlice 29 1 #[(0, x)], t, p, af, g⟩).run Try.prog w = .ok (.value (.slice (some ⟨w.heap.size, 0, none⟩) 1 1)) (w.alloc (.cells #[.int .u64 z] 28)) := fun ev w h1 => by go_simp
end
theorem flat_u64 : Flat (Lay.int .u64) (fun x => [.int .u64 x]) := Flat.int .u64
theorem zero4 (w : World) : (zeroValue 4).run Try.prog w = .ok (.bool false) w := by kernel_rfl
/-- A loop whose two numbers come nearer to one another. -/
theorem wp_two {P : Program} {Q : Exit → Act → World → Prop} {a : Act} {w : World} {c : Code} (s1 s2 i0 j0 : Nat) (I : Nat → Nat → Act → World → Prop) (h1 : ∀ i j a w, I i j a w → a.tmps.getD s1 undef = .int .i64 i) (h2 : ∀ i j a w, I i j a w → a.tmps.getD s2 undef = .int .i64 j) (h0 : I i0 j0 a w)
    (round : ∀ i j a w, I i j a w → c.wp P (Exit.then (fun a' w' => ∃ i' j', j' - i' < j - i ∧ I i' j' a' w') Q) a w) : (Code.loop c).wp P Q a w := by
  refine wp_loop (fun a w => ∃ i j, I i j a w) (fun a _ => (intOf (a.tmps.getD s2 undef) - intOf (a.tmps.getD s1 undef)).toNat) ⟨i0, j0, h0⟩ fun a w ⟨i, j, hI⟩ => ?_
  refine Code.wp_mono (fun e a' w' q => ?_) (round i j a w hI)
  cases e with
  | normal =>
    obtain ⟨i', j', h3, h4⟩ := q
    refine ⟨⟨i', j', h4⟩, ?_⟩
    rw [h1 _ _ _ _ hI, h2 _ _ _ _ hI, h1 _ _ _ _ h4, h2 _ _ _ _ h4]
    simp [intOf]
    omega
  | _ => exact q
abbrev BinE (l : List Int) (x : Int) (i j : Nat) : Env := [(7, true, .int .i64 (i : Int)), (8, true, .int .i64 (j : Int)), (0, true, .one (Lay.sl (Lay.int .u64)) l), (1, true, .int .u64 x), (6, true, .int .i64 (l.length : Int)), (4, true, .int .i64 0), (5, true, .bool false)]
def BinI (w0 : World) (F : Cell → Prop) (l : List Int) (x : Int) (i j : Nat) (a : Act) (w : World) : Prop := i ≤ posU l x ∧ posU l x ≤ j ∧ j ≤ l.length ∧ StE False 54 (BinE l x i j) F a w ∧ Below w0.heap.size w0 w
theorem bin_fin {l : List Int} (hs : l.Pairwise (· < ·)) {x : Int} {n : Bool} (hn : n = false) : (decide ((posU l x : Int) < (l.length : Int)) && ((l.getD (posU l x) 0 == x) || n)) = decide (x ∈ l) := by
  subst hn
  rw [Bool.or_false, ← posU_mem hs]
  congr 1
  rw [decide_eq_decide]
  omega
theorem getU {l : List Int} {i : Nat} (h : i < l.length) : l[i]? = some (l.getD i 0) := by simp [List.getD_eq_getElem?_getD, h]
theorem idxU {l : List Int} {i : Nat} (h : decide ((i : Int) < (l.length : Int)) = true) : 0 ≤ (i : Int) ∧ l[((i : Int)).toNat]? = some (l.getD i 0) := by
  have h : i < l.length := by simpa using h
  exact ⟨by omega, by simp [List.getD_eq_getElem?_getD, h]⟩
theorem less_eq {a b : Int} : (((a != a) && !(b != b)) || decide (a < b)) = decide (a < b) := by simp

set_option maxRecDepth 100000 in
theorem f73 {a : Int} : Fn False Try.prog 73 [.int .u64 a] (.bool (a != a)) := fn1 fun w F v0 h0 hF => by
  go_enter Try.func73, Try.ntmps73
  refine wp_seq ?_
  refine flowC mixed (st0 (U := False) (N := 6) (e := [(0, true, .int .u64 a)]) (F := F) rfl rfl hF ⟨⟨rfl, h0⟩, True.intro⟩) (by kernel_rfl) (by kernel_rfl) (cc rfl (p_assign g0 (oc _)) cn) fun a1 w1 b1 s1 => ?_
  have z1 := b1
  refine wp_seq ?_
  refine flowT (s1.keep (sc 0 rfl (sc 2 rfl sn))) (by kernel_rfl) (cc rfl (p_move g0 (od rfl id))
      (cc rfl (p_move g0 (od rfl id))
      (cc rfl (p_bin g0 (od rfl id) (od rfl id) b_neq_28)
      (cc rfl (p_assign g0 (od rfl id)) cn)))) fun a2 w2 b2 s2 => ?_
  have z2 := z1.trans (b2.mono z1.size)
  exact wp_ret (ret_tmp (fn := Try.f73) s2 2 rfl rfl (fun _ h => h) z2)

set_option maxRecDepth 100000 in
theorem f61 {a : Int} : Fn False Try.prog 61 [.int .u64 a] (.bool (a != a)) := fn1 fun w F v0 h0 hF => by
  go_enter Try.func61, Try.ntmps61
  refine wp_seq ?_
  refine flowC mixed (st0 (U := False) (N := 6) (e := [(0, true, .int .u64 a)]) (F := F) rfl rfl hF ⟨⟨rfl, h0⟩, True.intro⟩) (by kernel_rfl) (by kernel_rfl) (cc rfl (p_assign g0 (oc _)) cn) fun a1 w1 b1 s1 => ?_
  have z1 := b1
  refine wp_seq ?_
  refine flowT (s1.keep (sc 0 rfl (sc 2 rfl sn))) (by kernel_rfl) (cc rfl (p_move g0 (od rfl id))
      (cc rfl (p_move g0 (od rfl id))
      (cc rfl (p_bin g0 (od rfl id) (od rfl id) b_neq_28)
      (cc rfl (p_assign g0 (od rfl id)) cn)))) fun a2 w2 b2 s2 => ?_
  have z2 := z1.trans (b2.mono z1.size)
  exact wp_ret (ret_tmp (fn := Try.f61) s2 2 rfl rfl (fun _ h => h) z2)

set_option maxRecDepth 100000 in
theorem f60 {a b : Int} : Fn False Try.prog 60 [.int .u64 a, .int .u64 b] (.bool (decide (a < b))) := fn2 fun w F v0 v1 h0 h1 hF => by
  go_enter Try.func60, Try.ntmps60
  refine wp_seq ?_
  refine flowC mixed (st0 (U := False) (N := 17) (e := [(0, true, .int .u64 a), (1, true, .int .u64 b)]) (F := F) rfl rfl hF ⟨⟨rfl, h0⟩, ⟨⟨rfl, h1⟩, True.intro⟩⟩) (by kernel_rfl) (by kernel_rfl) (cc rfl (p_assign g0 (oc _)) cn) fun a1 w1 b1 s1 => ?_
  have z1 := b1
  refine wp_seq ?_
  refine flowT (s1.keep (sc 0 rfl (sc 1 rfl (sc 4 rfl sn)))) (by kernel_rfl) (cc rfl (p_move g0 (od rfl id))
      (cc rfl (p_call 73 g0 (ox (od rfl id) ox0) (fun _ _ => by kernel_rfl) f73)
      (cc rfl (p_move g0 (od rfl id))
      (cc rfl (p_move (g1 rfl rfl) (od rfl (fun _ => rfl)))
      (cc rfl (p_call 73 (g1 rfl rfl) (ox (od rfl id) ox0) (fun _ _ => by kernel_rfl) f73)
      (cc rfl (p_not (g1 rfl rfl) (od rfl id))
      (cc rfl (p_and g0 (od rfl id) (od rfl id))
      (cc rfl (p_move g0 (od rfl id))
      (cc rfl (p_move (g1 rfl rfl) (od rfl (fun _ => rfl)))
      (cc rfl (p_move (g1 rfl rfl) (od rfl (fun _ => rfl)))
      (cc rfl (p_bin (g1 rfl rfl) (od rfl id) (od rfl id) b_lss_28)
      (cc rfl (p_or g0 (od rfl id) (od rfl id))
      (cc rfl (p_assign g0 (od rfl id)) cn))))))))))))) fun a2 w2 b2 s2 => ?_
  have z2 := z1.trans (b2.mono z1.size)
  have s2 := s2.more 4 (y := .bool (decide (a < b))) (bool_as (s2.get 4 rfl) less_eq)
  exact wp_ret (ret_tmp (fn := Try.f60) s2 4 rfl rfl (fun _ h => h) z2)

theorem p_cvE {P : Program} {U : Prop} {ops : Array Oper} {Q : Exit → Act → World → Prop} {N d : Nat} {e : Env} {t : TypeId} {p : String} {af : Array Edge} {g : Option (Nat × Bool)} {c : Bool} {x : Operand} {u u' : TypeId} {v : Value} {k : IntKind} {n n' : Int} (hn : n = n') (hg : GdE ops e g c) (hx : OpdE e c x (.val v)) (hr : Run1 P ⟨some d, .convert u u' x, t, p, af, g⟩ x v (.int k n)) : Pays U P ops Q N e ⟨some d, .convert u u' x, t, p, af, g⟩ (c, .int k n') := hn ▸ p_conv hg hx hr

set_option maxRecDepth 100000 in
theorem f47 {l : List Int} {x : Int} (hs : l.Pairwise (· < ·)) (hl : l.length ≤ 1000000) : Fn False Try.prog 47 [.one (Lay.sl (Lay.int .u64)) l, .int .u64 x] (.two (.int .i64 (posU l x : Int)) (.bool (decide (x ∈ l)))) := fn2 fun w F v0 v1 h0 h1 hF => by
  go_enter Try.func47, Try.ntmps47
  refine wp_seq ?_
  refine flowC mixed (st0 (U := False) (N := 54) (e := [(0, true, .one (Lay.sl (Lay.int .u64)) l), (1, true, .int .u64 x)]) (F := F) rfl rfl hF ⟨⟨rfl, h0⟩, ⟨⟨rfl, h1⟩, True.intro⟩⟩) (by kernel_rfl) (by kernel_rfl) (cc rfl (p_assign g0 (oc _))
      (cc rfl (p_assign g0 (oc _)) cn)) fun a1 w1 b1 s1 => ?_
  have z1 := b1
  refine wp_seq ?_
  refine flowC mixed (s1.keep (sc 0 rfl (sc 1 rfl (sc 4 rfl (sc 5 rfl sn))))) (by kernel_rfl) (by kernel_rfl) (cc rfl (p_move g0 (od rfl id))
      (cc rfl (p_len ln_29 g0 (od rfl id))
      (cc rfl (p_assign g0 (od rfl id)) cn))) fun a2 w2 b2 s2 => ?_
  have z2 := z1.trans (b2.mono z1.size)
  refine wp_seq ?_
  refine flowC mixed (s2.keep (sc 0 rfl (sc 1 rfl (sc 4 rfl (sc 5 rfl (sc 6 rfl sn)))))) (by kernel_rfl) (by kernel_rfl) (cc rfl (p_move g0 (od rfl id))
      (cc rfl (p_assign g0 (oc _))
      (cc rfl (p_assign g0 (od rfl id)) cn))) fun a3 w3 b3 s3 => ?_
  have z3 := z2.trans (b3.mono z2.size)
  refine wp_seq ?_
  refine wp_block ?_
  refine wp_two 7 8 0 l.length (BinI w F l x) (fun _ _ _ _ h => h.2.2.2.1.get 7 rfl) (fun _ _ _ _ h => h.2.2.2.1.get 8 rfl) ⟨Nat.zero_le _, posU_le l x, Nat.le_refl _, s3.to _ ⟨rfl, rfl, rfl, rfl, rfl, rfl, rfl, True.intro⟩, z3⟩ fun i j a4 w4 hI => ?_
  obtain ⟨hi1, hi2, hi3, s4, z4⟩ := hI
  refine wp_seq ?_
  refine wp_seq ?_
  refine flowC mixed (s4.keep (sc 0 rfl (sc 1 rfl (sc 4 rfl (sc 5 rfl (sc 6 rfl (sc 7 rfl (sc 8 rfl sn)))))))) (by kernel_rfl) (by kernel_rfl) (cc rfl (p_move g0 (od rfl id))
      (cc rfl (p_move g0 (od rfl id))
      (cc rfl (p_bin g0 (od rfl id) (od rfl id) b_lss_3) cn))) fun a5 w5 b5 s5 => ?_
  have z5 := z4.trans (b5.mono z4.size)
  refine s5.cond 15 rfl (fun h => ?_) (fun h => ?_)
  · -- true
    have hij : i < j := by simpa using h
    refine wp_skip ?_
    refine wp_block ?_
    refine wp_seq ?_
    refine flowC mixed (s5.keep (sc 0 rfl (sc 1 rfl (sc 4 rfl (sc 5 rfl (sc 6 rfl (sc 7 rfl (sc 8 rfl (sc 13 rfl (sc 14 rfl (sc 15 rfl sn))))))))))) (by kernel_rfl) (by kernel_rfl) (cc rfl (p_move g0 (od rfl id))
        (cc rfl (p_move g0 (od rfl id))
        (cc rfl (p_bin g0 (od rfl id) (od rfl id) b_add_3)
        (cc rfl (p_cvE (n' := ((i + j : Nat) : Int)) (by rw [IntKind.wrap_i64, IntKind.wrap_u64]; omega) g0 (od rfl id) cv_3_55)
        (cc rfl (p_bin g0 (od rfl id) (oc _) b_half)
        (cc rfl (p_conv g0 (od rfl id) cv_55_3)
        (cc rfl (p_assign g0 (od rfl id)) cn))))))) fun a6 w6 b6 s6 => ?_
    have z6 := z5.trans (b6.mono z5.size)
    have s6 := s6.more 9 (y := .int .i64 (((i + j) / 2 : Nat) : Int)) (int_as (s6.get 9 rfl) (by rw [IntKind.wrap_i64]; omega))
    refine wp_seq ?_
    refine flowC mixed (s6.keep (sc 0 rfl (sc 1 rfl (sc 4 rfl (sc 5 rfl (sc 6 rfl (sc 7 rfl (sc 8 rfl (sc 9 rfl (sc 13 rfl (sc 14 rfl (sc 15 rfl (sc 16 rfl (sc 17 rfl (sc 18 rfl (sc 19 rfl (sc 20 rfl (sc 21 rfl sn)))))))))))))))))) (by kernel_rfl) (by kernel_rfl) (cc rfl (p_move g0 (od rfl id))
        (cc rfl (p_move g0 (od rfl id))
        (cc rfl (p_index ix_29 (getU (show (i + j) / 2 < l.length by omega)) g0 (od rfl id) (od rfl id))
        (cc rfl (p_loadI ld_28 g0 (od rfl id))
        (cc rfl (p_move g0 (od rfl id))
        (cc rfl (p_call 60 g0 (ox (od rfl id) (ox (od rfl id) ox0)) (fun _ _ => by kernel_rfl) f60) cn)))))) fun a7 w7 b7 s7 => ?_
    have z7 := z6.trans (b7.mono z6.size)
    refine s7.cond 27 rfl (fun h27 => ?_) (fun h27 => ?_)
    · -- true
      have hh : (i + j) / 2 < l.length := by omega
      have hq := posU_iff hs (x := x) hh
      rw [show l[(i + j) / 2] = l.getD ((i + j) / 2) 0 by simp [List.getD_eq_getElem?_getD, hh]] at hq
      have hlt := hq.1 (by simpa using h27)
      refine flowT (s7.keep (sc 0 rfl (sc 1 rfl (sc 4 rfl (sc 5 rfl (sc 6 rfl (sc 7 rfl (sc 8 rfl (sc 9 rfl (sc 13 rfl (sc 14 rfl (sc 15 rfl (sc 16 rfl (sc 17 rfl (sc 18 rfl (sc 19 rfl (sc 20 rfl (sc 21 rfl (sc 22 rfl (sc 23 rfl (sc 24 rfl (sc 25 rfl (sc 26 rfl (sc 27 rfl sn)))))))))))))))))))))))) (by kernel_rfl) (cc rfl (p_move g0 (od rfl id))
          (cc rfl (p_bin g0 (od rfl id) (oc _) b_add_3)
          (cc rfl (p_assign g0 (od rfl id)) cn))) fun a8 w8 b8 s8 => ?_
      have z8 := z7.trans (b8.mono z7.size)
      have s8 := s8.more 7 (y := .int .i64 (((i + j) / 2 + 1 : Nat) : Int)) (int_as (s8.get 7 rfl) (by rw [IntKind.wrap_i64]; omega))
      exact ⟨(i + j) / 2 + 1, j, by omega, by omega, hi2, hi3, s8.to _ ⟨rfl, rfl, rfl, rfl, rfl, rfl, rfl, True.intro⟩, z8⟩
    · -- false
      have hh : (i + j) / 2 < l.length := by omega
      have hq := posU_iff hs (x := x) hh
      rw [show l[(i + j) / 2] = l.getD ((i + j) / 2) 0 by simp [List.getD_eq_getElem?_getD, hh]] at hq
      have hge : ¬ (i + j) / 2 < posU l x := fun hp => absurd (hq.2 hp) (by simpa using h27)
      refine flowT (s7.keep (sc 0 rfl (sc 1 rfl (sc 4 rfl (sc 5 rfl (sc 6 rfl (sc 7 rfl (sc 8 rfl (sc 9 rfl (sc 13 rfl (sc 14 rfl (sc 15 rfl (sc 16 rfl (sc 17 rfl (sc 18 rfl (sc 19 rfl (sc 20 rfl (sc 21 rfl (sc 22 rfl (sc 23 rfl (sc 24 rfl (sc 25 rfl (sc 26 rfl (sc 27 rfl sn)))))))))))))))))))))))) (by kernel_rfl) (cc rfl (p_move g0 (od rfl id))
          (cc rfl (p_assign g0 (od rfl id)) cn)) fun a9 w9 b9 s9 => ?_
      have z9 := z7.trans (b9.mono z7.size)
      exact ⟨i, (i + j) / 2, by omega, hi1, by omega, by omega, s9.to _ ⟨rfl, rfl, rfl, rfl, rfl, rfl, rfl, True.intro⟩, z9⟩
  · -- false
    have hij : ¬ i < j := by simpa using h
    obtain rfl : i = posU l x := by omega
    refine wp_exit ?_
    refine wp_seq ?_
    refine flowT (s5.keep (sc 0 rfl (sc 1 rfl (sc 4 rfl (sc 5 rfl (sc 6 rfl (sc 7 rfl (sc 8 rfl sn)))))))) (by kernel_rfl) (cc rfl (p_move g0 (od rfl id))
        (cc rfl (p_move g0 (od rfl id))
        (cc rfl (p_move g0 (od rfl id))
        (cc rfl (p_bin g0 (od rfl id) (od rfl id) b_lss_3)
        (cc rfl (p_move g0 (od rfl id))
        (cc rfl (p_move (g1 rfl rfl) (od rfl (fun _ => rfl)))
        (cc rfl (p_move (g1 rfl rfl) (od rfl (fun _ => rfl)))
        (cc rfl (p_indexI (z := l.getD (posU l x) 0) ix_29 (fun hc => idxU (gd hc)) (g1 rfl rfl) (od rfl id) (od rfl id))
        (cc rfl (p_loadI ld_28 (g1 rfl rfl) (od rfl id))
        (cc rfl (p_move (g1 rfl rfl) (od rfl (fun _ => rfl)))
        (cc rfl (p_bin (g1 rfl rfl) (od rfl id) (od rfl id) b_eql_28)
        (cc rfl (p_move (g1 rfl rfl) (od rfl id))
        (cc rfl (p_move (g1 rfl rfl) (od rfl (fun _ => rfl)))
        (cc rfl (p_move (g1 rfl rfl) (od rfl (fun _ => rfl)))
        (cc rfl (p_indexI (z := l.getD (posU l x) 0) ix_29 (fun hc => idxU (gd (andl hc))) (g1 rfl rfl) (od rfl id) (od rfl id))
        (cc rfl (p_loadI ld_28 (g1 rfl rfl) (od rfl id))
        (cc rfl (p_call 61 (g1 rfl rfl) (ox (od rfl id) ox0) (fun _ _ => by kernel_rfl) f61)
        (cc rfl (p_move (g1 rfl rfl) (od rfl id))
        (cc rfl (p_move (g1 rfl rfl) (od rfl (fun _ => rfl)))
        (cc rfl (p_call 61 (g1 rfl rfl) (ox (od rfl id) ox0) (fun _ _ => by kernel_rfl) f61)
        (cc rfl (p_and (g1 rfl rfl) (od rfl id) (od rfl id))
        (cc rfl (p_or (g1 rfl rfl) (od rfl id) (od rfl id))
        (cc rfl (p_and g0 (od rfl id) (od rfl id))
        (cc rfl (p_assign g0 (od rfl id))
        (cc rfl (p_assign g0 (od rfl id)) cn))))))))))))))))))))))))) fun a10 w10 b10 s10 => ?_
    have z10 := z5.trans (b10.mono z5.size)
    have s10 := s10.more 5 (y := .bool (decide (x ∈ l))) (bool_as (s10.get 5 rfl) (bin_fin hs (by simp)))
    exact wp_ret (ret_tmp2 (fn := Try.f47) s10 4 5 rfl rfl rfl (fun _ h => h) z10)

end Go.Proofs.Ytbeeiecbbmiojaa.Y
