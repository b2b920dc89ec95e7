/- The functions on maps, by what they make of them. -/
import Derived.Test.YtbeeiecbbmiojaaYops
import Derived.Test.YtbeeiecbbmiojaaRowsM
namespace Go.Proofs.Ytbeeiecbbmiojaa.Y
open Go.RowKit

/-- A map: its page, its segment, the segment's page, how many, whether it may be written. -/
structure M where
  pa : Int
  sg : Int
  fr : Int
  nn : Int
  wr : Bool
deriving DecidableEq, Inhabited
def mapL : Lay M := ((Lay.int .i64).pr ((Lay.int .u64).pr ((Lay.int .i64).pr ((Lay.int .i64).pr Lay.bool)))).via fun m => (m.pa, m.sg, m.fr, m.nn, m.wr)
def mapE (m : M) : List Value := [.int .i64 m.pa, .int .u64 m.sg, .int .i64 m.fr, .int .i64 m.nn, .bool m.wr]
theorem mapF : Flat mapL mapE := fun w F cs x => Flat.via (fun m : M => (m.pa, m.sg, m.fr, m.nn, m.wr)) (Flat.pr (Flat.int .i64) (Flat.pr (Flat.int .u64) (Flat.pr (Flat.int .i64) (Flat.pr (Flat.int .i64) Flat.bool)))) w F cs x
theorem pt69_0 : Part mapL (Lay.int .i64) 0 (fun m => m.pa) := Part.via (Part.fst (Part.self _))
theorem pt69_1 : Part mapL (Lay.int .u64) 1 (fun m => m.sg) := Part.via (Part.snd (Part.fst (Part.self _)))
theorem pt69_2 : Part mapL (Lay.int .i64) 2 (fun m => m.fr) := Part.via (Part.snd (Part.snd (Part.fst (Part.self _))))
theorem pt69_3 : Part mapL (Lay.int .i64) 3 (fun m => m.nn) := Part.via (Part.snd (Part.snd (Part.snd (Part.fst (Part.self _)))))
theorem pt69_4 : Part mapL Lay.bool 4 (fun m => m.wr) := Part.via (Part.snd (Part.snd (Part.snd (Part.snd (Part.self _)))))
/-- May it be a map? -/
def fitsB (m : M) : Bool := decide (1 ≤ m.nn ∧ m.nn ≤ 16 ∧ 0 ≤ m.pa ∧ m.pa + m.nn ≤ 4096 ∧ 0 ≤ m.fr ∧ m.fr + m.nn ≤ 16 ∧ m.sg ≠ 0)
theorem fits_eq (m : M) : (decide (1 ≤ m.nn) && decide (m.nn ≤ 16) && decide (0 ≤ m.pa) && decide (m.pa ≤ IntKind.i64.wrap (4096 - m.nn)) && decide (0 ≤ m.fr) && decide (m.fr ≤ IntKind.i64.wrap (16 - m.nn)) && (m.sg != 0)) = fitsB m := by
  unfold fitsB
  rw [Bool.eq_iff_iff]
  simp only [Bool.and_eq_true, decide_eq_true_eq, bne_iff_ne, IntKind.wrap_i64]
  omega
theorem fits_eq2 (m : M) : (decide (1 ≤ m.nn) && decide (m.nn ≤ 16) && decide (0 ≤ m.pa) && decide (m.pa < 4096) && decide (IntKind.i64.wrap (m.pa + m.nn) ≤ 4096) && decide (0 ≤ m.fr) && decide (m.fr ≤ 16) && decide (IntKind.i64.wrap (m.fr + m.nn) ≤ 16) && (m.sg != 0)) = fitsB m := by
  unfold fitsB
  rw [Bool.eq_iff_iff]
  simp only [Bool.and_eq_true, decide_eq_true_eq, bne_iff_ne, IntKind.wrap_i64]
  omega
/-- Is a page in both? -/
def overB (a b : M) : Bool := decide (a.pa < IntKind.i64.wrap (b.pa + b.nn)) && decide (b.pa < IntKind.i64.wrap (a.pa + a.nn))
/-- From a page on they rise, and each may be. -/
def rightFrom : Int → List M → Bool
  | _, [] => true
  | e, m :: t => (fitsB m && decide (e ≤ m.pa)) && rightFrom (m.pa + m.nn) t
def rightB (l : List M) : Bool := rightFrom 0 l && decide ((l.length : Int) ≤ 16)
def endAt (l : List M) : Nat → Int
  | 0 => 0
  | i + 1 => match l[i]? with
    | some m => m.pa + m.nn
    | none => 0
theorem end_succ {l : List M} {i : Nat} {m : M} (h : l[i]? = some m) : endAt l (i + 1) = m.pa + m.nn := by simp [endAt, h]
theorem drop_at {l : List M} {i : Nat} {m : M} (h : l[i]? = some m) : l.drop i = m :: l.drop (i + 1) := by
  obtain ⟨hi, rfl⟩ := List.getElem?_eq_some_iff.1 h
  exact List.drop_eq_getElem_cons hi
theorem end_wrap {m : M} (h : fitsB m = true) : IntKind.i64.wrap (m.pa + m.nn) = m.pa + m.nn := by
  unfold fitsB at h
  rw [decide_eq_true_eq] at h
  rw [IntKind.wrap_i64]
  omega
theorem right_bad {l : List M} {i : Nat} {m : M} (hx : rightFrom 0 l = rightFrom (endAt l i) (l.drop i)) (hm : l[i]? = some m) (h : (!fitsB m || decide (m.pa < endAt l i)) = true) : rightB l = false := by
  unfold rightB
  rw [hx, drop_at hm, rightFrom]
  rw [Bool.or_eq_true, Bool.not_eq_true', decide_eq_true_eq] at h
  rcases h with h | h
  · simp [h]
  · simp [show ¬ (endAt l i ≤ m.pa) by omega]
theorem right_go {l : List M} {i : Nat} {m : M} (hx : rightFrom 0 l = rightFrom (endAt l i) (l.drop i)) (hm : l[i]? = some m) (h : (!fitsB m || decide (m.pa < endAt l i)) = false) : rightFrom 0 l = rightFrom (endAt l (i + 1)) (l.drop (i + 1)) := by
  rw [Bool.or_eq_false_iff, Bool.not_eq_false', decide_eq_false_iff_not] at h
  rw [hx, drop_at hm, rightFrom, end_succ hm, h.1]
  simp [show endAt l i ≤ m.pa by omega]
theorem right_fits {m : M} {e : Int} (h : (!fitsB m || decide (m.pa < e)) = false) : fitsB m = true := by
  rw [Bool.or_eq_false_iff, Bool.not_eq_false'] at h
  exact h.1
theorem right_end {l : List M} (hx : rightFrom 0 l = rightFrom (endAt l l.length) (l.drop l.length)) : decide ((l.length : Int) ≤ 16) = rightB l := by
  unfold rightB
  rw [hx, List.drop_length, rightFrom, Bool.true_and]

set_option maxRecDepth 100000 in
theorem f41 {m : M} : Fn False Try.prog 41 [.st mapL m] (.bool (fitsB m)) := fn1 fun w F v0 h0 hF => by
  go_enter Try.func41, Try.ntmps41
  refine wp_seq ?_
  refine flowC mixed (st0 (U := False) (N := 42) (e := [(0, true, .st mapL m)]) (F := F) rfl rfl hF ⟨⟨rfl, h0⟩, True.intro⟩) (by kernel_rfl) (by kernel_rfl) (cc rfl (p_box bx_69 g0 (od rfl id))
      (cc rfl (p_assign g0 (oc _)) cn)) fun a1 w1 b1 s1 => ?_
  have z1 := b1
  refine wp_seq ?_
  refine flowT (s1.keep (sc 1 rfl (sc 2 rfl sn))) (by kernel_rfl) (cc rfl (p_fieldAddr pt69_3 fa_69_3 g0 (od rfl id))
      (cc rfl (p_loadI ld_3 g0 (od rfl id))
      (cc rfl (p_bin g0 (od rfl id) (oc _) b_geq_3)
      (cc rfl (p_move g0 (od rfl id))
      (cc rfl (p_fieldAddr pt69_3 fa_69_3 (g1 rfl rfl) (od rfl (fun _ => rfl)))
      (cc rfl (p_loadI ld_3 (g1 rfl rfl) (od rfl id))
      (cc rfl (p_bin (g1 rfl rfl) (od rfl id) (oc _) b_leq_3)
      (cc rfl (p_and g0 (od rfl id) (od rfl id))
      (cc rfl (p_move g0 (od rfl id))
      (cc rfl (p_fieldAddr pt69_0 fa_69_0 (g1 rfl rfl) (od rfl (fun _ => rfl)))
      (cc rfl (p_loadI ld_3 (g1 rfl rfl) (od rfl id))
      (cc rfl (p_bin (g1 rfl rfl) (od rfl id) (oc _) b_geq_3)
      (cc rfl (p_and g0 (od rfl id) (od rfl id))
      (cc rfl (p_move g0 (od rfl id))
      (cc rfl (p_fieldAddr pt69_0 fa_69_0 (g1 rfl rfl) (od rfl (fun _ => rfl)))
      (cc rfl (p_loadI ld_3 (g1 rfl rfl) (od rfl id))
      (cc rfl (p_fieldAddr pt69_3 fa_69_3 (g1 rfl rfl) (od rfl (fun _ => rfl)))
      (cc rfl (p_loadI ld_3 (g1 rfl rfl) (od rfl id))
      (cc rfl (p_bin (g1 rfl rfl) (oc _) (od rfl id) b_sub_3)
      (cc rfl (p_bin (g1 rfl rfl) (od rfl id) (od rfl id) b_leq_3)
      (cc rfl (p_and g0 (od rfl id) (od rfl id))
      (cc rfl (p_move g0 (od rfl id))
      (cc rfl (p_fieldAddr pt69_2 fa_69_2 (g1 rfl rfl) (od rfl (fun _ => rfl)))
      (cc rfl (p_loadI ld_3 (g1 rfl rfl) (od rfl id))
      (cc rfl (p_bin (g1 rfl rfl) (od rfl id) (oc _) b_geq_3)
      (cc rfl (p_and g0 (od rfl id) (od rfl id))
      (cc rfl (p_move g0 (od rfl id))
      (cc rfl (p_fieldAddr pt69_2 fa_69_2 (g1 rfl rfl) (od rfl (fun _ => rfl)))
      (cc rfl (p_loadI ld_3 (g1 rfl rfl) (od rfl id))
      (cc rfl (p_fieldAddr pt69_3 fa_69_3 (g1 rfl rfl) (od rfl (fun _ => rfl)))
      (cc rfl (p_loadI ld_3 (g1 rfl rfl) (od rfl id))
      (cc rfl (p_bin (g1 rfl rfl) (oc _) (od rfl id) b_sub_3)
      (cc rfl (p_bin (g1 rfl rfl) (od rfl id) (od rfl id) b_leq_3)
      (cc rfl (p_and g0 (od rfl id) (od rfl id))
      (cc rfl (p_move g0 (od rfl id))
      (cc rfl (p_fieldAddr pt69_1 fa_69_1 (g1 rfl rfl) (od rfl (fun _ => rfl)))
      (cc rfl (p_loadI ld_28 (g1 rfl rfl) (od rfl id))
      (cc rfl (p_bin (g1 rfl rfl) (od rfl id) (oc _) b_neq_28)
      (cc rfl (p_and g0 (od rfl id) (od rfl id))
      (cc rfl (p_assign g0 (od rfl id)) cn)))))))))))))))))))))))))))))))))))))))) fun a2 w2 b2 s2 => ?_
  have z2 := z1.trans (b2.mono z1.size)
  have s2 := s2.more 2 (y := .bool (fitsB m)) (bool_as (s2.get 2 rfl) (fits_eq m))
  exact wp_ret (ret_tmp (fn := Try.f41) s2 2 rfl rfl (fun _ h => h) z2)

set_option maxRecDepth 100000 in
theorem f21 {m : M} : Fn False Try.prog 21 [.st mapL m] (.bool (fitsB m)) := fn1 fun w F v0 h0 hF => by
  go_enter Try.func21, Try.ntmps21
  refine wp_seq ?_
  refine flowC mixed (st0 (U := False) (N := 52) (e := [(0, true, .st mapL m)]) (F := F) rfl rfl hF ⟨⟨rfl, h0⟩, True.intro⟩) (by kernel_rfl) (by kernel_rfl) (cc rfl (p_box bx_69 g0 (od rfl id))
      (cc rfl (p_assign g0 (oc _)) cn)) fun a1 w1 b1 s1 => ?_
  have z1 := b1
  refine wp_seq ?_
  refine flowT (s1.keep (sc 1 rfl (sc 2 rfl sn))) (by kernel_rfl) (cc rfl (p_fieldAddr pt69_3 fa_69_3 g0 (od rfl id))
      (cc rfl (p_loadI ld_3 g0 (od rfl id))
      (cc rfl (p_bin g0 (od rfl id) (oc _) b_geq_3)
      (cc rfl (p_move g0 (od rfl id))
      (cc rfl (p_fieldAddr pt69_3 fa_69_3 (g1 rfl rfl) (od rfl (fun _ => rfl)))
      (cc rfl (p_loadI ld_3 (g1 rfl rfl) (od rfl id))
      (cc rfl (p_bin (g1 rfl rfl) (od rfl id) (oc _) b_leq_3)
      (cc rfl (p_and g0 (od rfl id) (od rfl id))
      (cc rfl (p_move g0 (od rfl id))
      (cc rfl (p_fieldAddr pt69_0 fa_69_0 (g1 rfl rfl) (od rfl (fun _ => rfl)))
      (cc rfl (p_loadI ld_3 (g1 rfl rfl) (od rfl id))
      (cc rfl (p_bin (g1 rfl rfl) (od rfl id) (oc _) b_geq_3)
      (cc rfl (p_and g0 (od rfl id) (od rfl id))
      (cc rfl (p_move g0 (od rfl id))
      (cc rfl (p_fieldAddr pt69_0 fa_69_0 (g1 rfl rfl) (od rfl (fun _ => rfl)))
      (cc rfl (p_loadI ld_3 (g1 rfl rfl) (od rfl id))
      (cc rfl (p_bin (g1 rfl rfl) (od rfl id) (oc _) b_lss_3)
      (cc rfl (p_and g0 (od rfl id) (od rfl id))
      (cc rfl (p_move g0 (od rfl id))
      (cc rfl (p_fieldAddr pt69_0 fa_69_0 (g1 rfl rfl) (od rfl (fun _ => rfl)))
      (cc rfl (p_loadI ld_3 (g1 rfl rfl) (od rfl id))
      (cc rfl (p_fieldAddr pt69_3 fa_69_3 (g1 rfl rfl) (od rfl (fun _ => rfl)))
      (cc rfl (p_loadI ld_3 (g1 rfl rfl) (od rfl id))
      (cc rfl (p_bin (g1 rfl rfl) (od rfl id) (od rfl id) b_add_3)
      (cc rfl (p_bin (g1 rfl rfl) (od rfl id) (oc _) b_leq_3)
      (cc rfl (p_and g0 (od rfl id) (od rfl id))
      (cc rfl (p_move g0 (od rfl id))
      (cc rfl (p_fieldAddr pt69_2 fa_69_2 (g1 rfl rfl) (od rfl (fun _ => rfl)))
      (cc rfl (p_loadI ld_3 (g1 rfl rfl) (od rfl id))
      (cc rfl (p_bin (g1 rfl rfl) (od rfl id) (oc _) b_geq_3)
      (cc rfl (p_and g0 (od rfl id) (od rfl id))
      (cc rfl (p_move g0 (od rfl id))
      (cc rfl (p_fieldAddr pt69_2 fa_69_2 (g1 rfl rfl) (od rfl (fun _ => rfl)))
      (cc rfl (p_loadI ld_3 (g1 rfl rfl) (od rfl id))
      (cc rfl (p_bin (g1 rfl rfl) (od rfl id) (oc _) b_leq_3)
      (cc rfl (p_and g0 (od rfl id) (od rfl id))
      (cc rfl (p_move g0 (od rfl id))
      (cc rfl (p_fieldAddr pt69_2 fa_69_2 (g1 rfl rfl) (od rfl (fun _ => rfl)))
      (cc rfl (p_loadI ld_3 (g1 rfl rfl) (od rfl id))
      (cc rfl (p_fieldAddr pt69_3 fa_69_3 (g1 rfl rfl) (od rfl (fun _ => rfl)))
      (cc rfl (p_loadI ld_3 (g1 rfl rfl) (od rfl id))
      (cc rfl (p_bin (g1 rfl rfl) (od rfl id) (od rfl id) b_add_3)
      (cc rfl (p_bin (g1 rfl rfl) (od rfl id) (oc _) b_leq_3)
      (cc rfl (p_and g0 (od rfl id) (od rfl id))
      (cc rfl (p_move g0 (od rfl id))
      (cc rfl (p_fieldAddr pt69_1 fa_69_1 (g1 rfl rfl) (od rfl (fun _ => rfl)))
      (cc rfl (p_loadI ld_28 (g1 rfl rfl) (od rfl id))
      (cc rfl (p_bin (g1 rfl rfl) (od rfl id) (oc _) b_neq_28)
      (cc rfl (p_and g0 (od rfl id) (od rfl id))
      (cc rfl (p_assign g0 (od rfl id)) cn)))))))))))))))))))))))))))))))))))))))))))))))))) fun a2 w2 b2 s2 => ?_
  have z2 := z1.trans (b2.mono z1.size)
  have s2 := s2.more 2 (y := .bool (fitsB m)) (bool_as (s2.get 2 rfl) (fits_eq2 m))
  exact wp_ret (ret_tmp (fn := Try.f21) s2 2 rfl rfl (fun _ h => h) z2)

set_option maxRecDepth 100000 in
theorem f22 {a b : M} : Fn False Try.prog 22 [.st mapL a, .st mapL b] (.bool (overB a b)) := fn2 fun w F v0 v1 h0 h1 hF => by
  go_enter Try.func22, Try.ntmps22
  refine wp_seq ?_
  refine flowC mixed (st0 (U := False) (N := 23) (e := [(0, true, .st mapL a), (1, true, .st mapL b)]) (F := F) rfl rfl hF ⟨⟨rfl, h0⟩, ⟨⟨rfl, h1⟩, True.intro⟩⟩) (by kernel_rfl) (by kernel_rfl) (cc rfl (p_box bx_69 g0 (od rfl id))
      (cc rfl (p_box bx_69 g0 (od rfl id))
      (cc rfl (p_assign g0 (oc _)) cn))) fun a1 w1 b1 s1 => ?_
  have z1 := b1
  refine wp_seq ?_
  refine flowT (s1.keep (sc 2 rfl (sc 3 rfl (sc 4 rfl sn)))) (by kernel_rfl) (cc rfl (p_fieldAddr pt69_0 fa_69_0 g0 (od rfl id))
      (cc rfl (p_loadI ld_3 g0 (od rfl id))
      (cc rfl (p_fieldAddr pt69_0 fa_69_0 g0 (od rfl id))
      (cc rfl (p_loadI ld_3 g0 (od rfl id))
      (cc rfl (p_fieldAddr pt69_3 fa_69_3 g0 (od rfl id))
      (cc rfl (p_loadI ld_3 g0 (od rfl id))
      (cc rfl (p_bin g0 (od rfl id) (od rfl id) b_add_3)
      (cc rfl (p_bin g0 (od rfl id) (od rfl id) b_lss_3)
      (cc rfl (p_move g0 (od rfl id))
      (cc rfl (p_fieldAddr pt69_0 fa_69_0 (g1 rfl rfl) (od rfl (fun _ => rfl)))
      (cc rfl (p_loadI ld_3 (g1 rfl rfl) (od rfl id))
      (cc rfl (p_fieldAddr pt69_0 fa_69_0 (g1 rfl rfl) (od rfl (fun _ => rfl)))
      (cc rfl (p_loadI ld_3 (g1 rfl rfl) (od rfl id))
      (cc rfl (p_fieldAddr pt69_3 fa_69_3 (g1 rfl rfl) (od rfl (fun _ => rfl)))
      (cc rfl (p_loadI ld_3 (g1 rfl rfl) (od rfl id))
      (cc rfl (p_bin (g1 rfl rfl) (od rfl id) (od rfl id) b_add_3)
      (cc rfl (p_bin (g1 rfl rfl) (od rfl id) (od rfl id) b_lss_3)
      (cc rfl (p_and g0 (od rfl id) (od rfl id))
      (cc rfl (p_assign g0 (od rfl id)) cn))))))))))))))))))) fun a2 w2 b2 s2 => ?_
  have z2 := z1.trans (b2.mono z1.size)
  exact wp_ret (ret_tmp (fn := Try.f22) s2 4 rfl rfl (fun _ h => h) z2)

set_option maxRecDepth 100000 in
theorem f23 {l : List M} (hl0 : l.length ≤ maxLen) : Fn False Try.prog 23 [.one (Lay.sl mapL) l] (.bool (rightB l)) := fn1 fun w F v0 h0 hF => by
  have hl : l.length ≤ 9223372036854775807 := hl0
  go_enter Try.func23, Try.ntmps23
  refine wp_seq ?_
  refine flowC mixed (st0 (U := False) (N := 30) (e := [(0, true, .one (Lay.sl mapL) l)]) (F := F) rfl rfl hF ⟨⟨rfl, h0⟩, True.intro⟩) (by kernel_rfl) (by kernel_rfl) (cc rfl (p_assign g0 (oc _)) cn) fun a1 w1 b1 s1 => ?_
  have z1 := b1
  refine wp_seq ?_
  refine flowC mixed (s1.keep (sc 0 rfl (sc 2 rfl sn))) (by kernel_rfl) (by kernel_rfl) (cc rfl (p_assign g0 (oc _)) cn) fun a2 w2 b2 s2 => ?_
  have z2 := z1.trans (b2.mono z1.size)
  refine wp_seq ?_
  refine wp_seq ?_
  refine flowC mixed (s2.keep (sc 0 rfl (sc 2 rfl (sc 3 rfl sn)))) (by kernel_rfl) (by kernel_rfl) (cc rfl (p_move g0 (od rfl id))
      (cc rfl (p_len ln_41 g0 (od rfl id))
      (cc rfl (p_move g0 (oc _)) cn))) fun a3 w3 b3 s3 => ?_
  have z3 := z2.trans (b3.mono z2.size)
  refine wp_block ?_
  refine wp_range l.length 8 (fun i => [(3, true, .int .i64 (endAt l i))]) (fun i w => rightFrom 0 l = rightFrom (endAt l i) (l.drop i)) (s3.keep (sc 8 rfl (sc 3 rfl (sc 0 rfl (sc 2 rfl (sc 6 rfl (sc 7 rfl sn))))))) z3 (rfl) fun i a4 w4 hi1 s4 z4 x4 => ?_
  refine wp_seq ?_
  refine flowC mixed (s4.keep (sc 0 rfl (sc 2 rfl (sc 3 rfl (sc 6 rfl (sc 7 rfl (sc 8 rfl sn))))))) (by kernel_rfl) (by kernel_rfl) (cc rfl (p_bin g0 (od rfl id) (od rfl id) b_lss_3) cn) fun a5 w5 b5 s5 => ?_
  have z5 := z4.trans (b5.mono z4.size)
  refine wp_seq ?_
  refine s5.cond 9 rfl (fun h => ?_) (fun h => ?_)
  · -- true
    have hlt1 : i < l.length := by simpa using h
    obtain ⟨m, em⟩ : ∃ x, l[i]? = some x := ⟨_, List.getElem?_eq_getElem hlt1⟩
    refine wp_skip ?_
    refine wp_seq ?_
    refine wp_block ?_
    refine wp_seq ?_
    refine flowQ 3 mixed (s5.keep (sc 0 rfl (sc 2 rfl (sc 3 rfl (sc 6 rfl (sc 7 rfl (sc 8 rfl (sc 9 rfl sn)))))))) (by kernel_rfl) (by kernel_rfl) (cc rfl (p_index ix_41 em g0 (od rfl id) (od rfl id))
        (cc rfl (p_load Try.underlying69 rfl sz_69 g0 (od rfl id))
        (ca rfl (m_alloc al_69 (fun h => h.elim)) cn))) (by kernel_rfl) (ss rfl rfl rfl rfl puts_st sz_69 rfl rfl ss0) fun a6 w6 b6 s6 => ?_
    have z6 := z5.trans (b6.mono z5.size)
    refine wp_seq ?_
    refine wp_seq ?_
    refine flowC mixed (s6.keep (sc 0 rfl (sc 2 rfl (sc 3 rfl (sc 5 rfl (sc 6 rfl (sc 7 rfl (sc 8 rfl (sc 9 rfl (sc 10 rfl (sc 11 rfl sn))))))))))) (by kernel_rfl) (by kernel_rfl) (cc rfl (p_load Try.underlying69 rfl sz_69 g0 (od rfl id))
        (cc rfl (p_call 41 g0 (ox (od rfl id) ox0) (fun _ _ => by kernel_rfl) f41)
        (cc rfl (p_not g0 (od rfl id))
        (cc rfl (p_move g0 (od rfl id))
        (cc rfl (p_fieldAddr pt69_0 fa_69_0 (g1 rfl rfl) (od rfl (fun _ => rfl)))
        (cc rfl (p_loadI ld_3 (g1 rfl rfl) (od rfl id))
        (cc rfl (p_move (g1 rfl rfl) (od rfl (fun _ => rfl)))
        (cc rfl (p_bin (g1 rfl rfl) (od rfl id) (od rfl id) b_lss_3)
        (cc rfl (p_or g0 (od rfl id) (od rfl id)) cn))))))))) fun a7 w7 b7 s7 => ?_
    have z7 := z6.trans (b7.mono z6.size)
    refine s7.cond 20 rfl (fun h20 => ?_) (fun h20 => ?_)
    · -- true
      refine wp_seq ?_
      refine flowT (s7.keep (sc 0 rfl (sc 2 rfl (sc 3 rfl (sc 5 rfl (sc 6 rfl (sc 7 rfl (sc 8 rfl (sc 9 rfl (sc 10 rfl (sc 11 rfl (sc 12 rfl (sc 13 rfl (sc 14 rfl (sc 15 rfl (sc 16 rfl (sc 17 rfl (sc 18 rfl (sc 19 rfl (sc 20 rfl sn)))))))))))))))))))) (by kernel_rfl) (cc rfl (p_assign g0 (oc _)) cn) fun a8 w8 b8 s8 => ?_
      have z8 := z7.trans (b8.mono z7.size)
      have s8 := s8.more 2 (y := .bool (rightB l)) (bool_as (s8.get 2 rfl) (right_bad x4 em h20).symm)
      exact wp_ret (ret_tmp (fn := Try.f23) s8 2 rfl rfl (fun _ h => h) z8)
    · -- false
      refine wp_skip ?_
      refine flowT (s7.keep (sc 0 rfl (sc 2 rfl (sc 3 rfl (sc 5 rfl (sc 6 rfl (sc 7 rfl (sc 8 rfl (sc 9 rfl (sc 10 rfl (sc 11 rfl (sc 12 rfl (sc 13 rfl (sc 14 rfl (sc 15 rfl (sc 16 rfl (sc 17 rfl (sc 18 rfl (sc 19 rfl (sc 20 rfl sn)))))))))))))))))))) (by kernel_rfl) (cc rfl (p_fieldAddr pt69_0 fa_69_0 g0 (od rfl id))
          (cc rfl (p_loadI ld_3 g0 (od rfl id))
          (cc rfl (p_fieldAddr pt69_3 fa_69_3 g0 (od rfl id))
          (cc rfl (p_loadI ld_3 g0 (od rfl id))
          (cc rfl (p_bin g0 (od rfl id) (od rfl id) b_add_3)
          (cc rfl (p_assign g0 (od rfl id)) cn)))))) fun a9 w9 b9 s9 => ?_
      have z9 := z7.trans (b9.mono z7.size)
      have s9 := s9.more 3 (y := .int .i64 (endAt l (i + 1))) (int_as (s9.get 3 rfl) ((end_wrap (right_fits h20)).trans (end_succ em).symm))
      refine flowT (s9.keep (sc 0 rfl (sc 2 rfl (sc 3 rfl (sc 5 rfl (sc 6 rfl (sc 7 rfl (sc 8 rfl (sc 9 rfl (sc 10 rfl (sc 11 rfl (sc 12 rfl (sc 13 rfl (sc 14 rfl (sc 15 rfl (sc 16 rfl (sc 17 rfl (sc 18 rfl (sc 19 rfl (sc 20 rfl (sc 21 rfl (sc 22 rfl (sc 23 rfl (sc 24 rfl (sc 25 rfl sn))))))))))))))))))))))))) (by kernel_rfl) (cc rfl (p_bin g0 (od rfl id) (oc _) (inc_3 (by omega)))
          (cc rfl (p_move g0 (od rfl id)) cn)) fun a10 w10 b10 s10 => ?_
      have z10 := z9.trans (b10.mono z9.size)
      exact ⟨hlt1, s10.to _ ⟨rfl, rfl, rfl, rfl, rfl, rfl, True.intro⟩, z10, right_go x4 em h20⟩
  · -- false
    obtain rfl : i = l.length := by have := of_decide_eq_false h; (try dsimp only at this); omega
    refine wp_exit ?_
    refine wp_seq ?_
    refine flowT (s5.keep (sc 0 rfl (sc 2 rfl (sc 3 rfl (sc 6 rfl (sc 7 rfl (sc 8 rfl sn))))))) (by kernel_rfl) (cc rfl (p_move g0 (od rfl id))
        (cc rfl (p_len ln_41 g0 (od rfl id))
        (cc rfl (p_bin g0 (od rfl id) (oc _) b_leq_3)
        (cc rfl (p_assign g0 (od rfl id)) cn)))) fun a11 w11 b11 s11 => ?_
    have z11 := z5.trans (b11.mono z5.size)
    have s11 := s11.more 2 (y := .bool (rightB l)) (bool_as (s11.get 2 rfl) (right_end x4))
    exact wp_ret (ret_tmp (fn := Try.f23) s11 2 rfl rfl (fun _ h => h) z11)

end Go.Proofs.Ytbeeiecbbmiojaa.Y
