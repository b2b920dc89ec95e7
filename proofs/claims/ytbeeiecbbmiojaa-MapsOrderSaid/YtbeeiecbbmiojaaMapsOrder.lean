/- MapsOrder: the order in which maps are added plays no part in what stands where. -/
import Derived.Test.YtbeeiecbbmiojaaYord4
import Derived.Test.YtbeeiecbbmiojaaHead
namespace Go.Proofs.Ytbeeiecbbmiojaa.Y
open Go.RowKit Go.ChangeShapes Go.WideShapes Go.ChangeAt

theorem len_ok {l : List M} (h : (decide ((16 : Int) < (l.length : Int)) || ((l.length : Int) == 0)) = false) : l.length ≤ 16 ∧ 0 < l.length := by
  rw [Bool.or_eq_false_iff, decide_eq_false_iff_not] at h
  have h2 : ¬ (l.length : Int) = 0 := by simpa using h.2
  omega
set_option maxRecDepth 100000 in
theorem mapsOrder_walk (w : World) (v0 v1 : Value) (l : List M) (q : Int) (hl0 : l.length ≤ maxLen) (h0 : (.one (Lay.sl mapL) l : Sym).on w noF v0) (h1 : (.int .i64 q : Sym).on w noF v1) : Calls Try.prog 6 #[v0, v1] w fun e w' => e = .returned (.bool true) ∧ Below w.heap.size w w' := by
  go_enter Try.func6, Try.ntmps6
  refine wp_seq ?_
  refine flowC mixed (st0 (U := False) (N := 124) (e := [(0, true, .one (Lay.sl mapL) l), (1, true, .int .i64 q)]) (F := noF) rfl rfl (fok_none False w) ⟨⟨rfl, h0⟩, ⟨⟨rfl, h1⟩, True.intro⟩⟩) (by kernel_rfl) (by kernel_rfl) (cc rfl (p_assign g0 (oc _)) cn) fun a1 w1 b1 s1 => ?_
  have z1 := b1
  refine wp_seq ?_
  refine wp_seq ?_
  refine flowC mixed (s1.keep (sc 0 rfl (sc 1 rfl (sc 4 rfl sn)))) (by kernel_rfl) (by kernel_rfl) (cc rfl (p_call 20 g0 ox0 (fun _ _ => by kernel_rfl) f20)
      (cc rfl (p_not g0 (od rfl id)) cn)) fun a2 w2 b2 s2 => ?_
  have z2 := z1.trans (b2.mono z1.size)
  refine s2.cond 15 rfl (fun h => absurd h (by decide)) fun _ => ?_
  refine wp_skip ?_
  refine wp_seq ?_
  refine wp_seq ?_
  refine flowC mixed (s2.keep (sc 0 rfl (sc 1 rfl (sc 4 rfl sn)))) (by kernel_rfl) (by kernel_rfl) (cc rfl (p_move g0 (od rfl id))
      (cc rfl (p_len ln_41 g0 (od rfl id))
      (cc rfl (p_bin g0 (od rfl id) (oc _) b_gtr_3)
      (cc rfl (p_move g0 (od rfl id))
      (cc rfl (p_move (g1 rfl rfl) (od rfl (fun _ => rfl)))
      (cc rfl (p_len ln_41 (g1 rfl rfl) (od rfl id))
      (cc rfl (p_bin (g1 rfl rfl) (od rfl id) (oc _) b_eql_3)
      (cc rfl (p_or g0 (od rfl id) (od rfl id)) cn)))))))) fun a3 w3 b3 s3 => ?_
  have z3 := z2.trans (b3.mono z2.size)
  refine s3.cond 23 rfl (fun h23 => ?_) (fun h23 => ?_)
  · -- true
    refine wp_seq ?_
    refine flowT (s3.keep (sc 0 rfl (sc 1 rfl (sc 4 rfl sn)))) (by kernel_rfl) (cc rfl (p_assign g0 (oc _)) cn) fun a4 w4 b4 s4 => ?_
    have z4 := z3.trans (b4.mono z3.size)
    exact wp_ret (ret_law (fn := Try.f6) s4 4 rfl rfl rfl z4)
  · -- false
    obtain ⟨hl16, hl1⟩ := len_ok h23
    refine wp_skip ?_
    refine wp_seq ?_
    refine flowT (s3.keep (sc 0 rfl (sc 1 rfl (sc 4 rfl sn)))) (by kernel_rfl) (cc rfl (p_move g0 (od rfl id))
        (cc rfl (p_move g0 (od rfl id))
        (cc rfl (p_len ln_41 g0 (od rfl id))
        (cc rfl (p_bin g0 (od rfl id) (od rfl id) (b_rem_3 (by omega)))
        (cc rfl (p_move g0 (od rfl id))
        (cc rfl (p_len ln_41 g0 (od rfl id))
        (cc rfl (p_bin g0 (od rfl id) (od rfl id) b_add_3)
        (cc rfl (p_move g0 (od rfl id))
        (cc rfl (p_len ln_41 g0 (od rfl id))
        (cc rfl (p_bin g0 (od rfl id) (od rfl id) (b_rem_3 (by omega)))
        (cc rfl (p_assign g0 (od rfl id)) cn))))))))))) fun a5 w5 b5 s5 => ?_
    have z5 := z3.trans (b5.mono z3.size)
    obtain ⟨t, ht, et⟩ := turn_is q hl1 hl16
    have s5 := s5.more 1 (y := .int .i64 (t : Int)) (int_as (s5.get 1 rfl) et)
    refine wp_seq ?_
    refine flowC mixed (s5.keep (sc 0 rfl (sc 1 rfl (sc 4 rfl sn)))) (by kernel_rfl) (by kernel_rfl) (cc rfl (p_assign g0 (oc _))
        (cc rfl (p_assign g0 (oc _)) cn)) fun a6 w6 b6 s6 => ?_
    have z6 := z5.trans (b6.mono z5.size)
    refine wp_seq ?_
    refine wp_seq ?_
    refine flowC mixed (s6.keep (sc 0 rfl (sc 1 rfl (sc 4 rfl (sc 5 rfl (sc 6 rfl sn)))))) (by kernel_rfl) (by kernel_rfl) (cc rfl (p_move g0 (od rfl id))
        (cc rfl (p_len ln_41 g0 (od rfl id))
        (cc rfl (p_move g0 (oc _)) cn))) fun a7 w7 b7 s7 => ?_
    have z7 := z6.trans (b7.mono z6.size)
    have s7 := s7.more 5 (y := .one (Lay.sl mapL) (mvs l 0 0)) (nil_one (s7.get 5 rfl))
    have s7 := s7.more 6 (y := .one (Lay.sl mapL) (ordB l t 0)) (by rw [show ordB l t 0 = [] by simp [ordB, mvs, show t ≤ l.length by omega]]; exact nil_one (s7.get 6 rfl))
    refine wp_block ?_
    refine wp_range l.length 36 (fun i => [(5, true, .one (Lay.sl mapL) (mvs l 0 i)), (6, true, .one (Lay.sl mapL) (ordB l t i))]) (fun i w => okA l i ∧ okB l t i) (s7.keep (sc 36 rfl (sc 5 rfl (sc 6 rfl (sc 0 rfl (sc 1 rfl (sc 4 rfl (sc 35 rfl sn)))))))) z7 (⟨fun j hj => absurd hj (Nat.not_lt_zero j), fun j hj => absurd hj (Nat.not_lt_zero j)⟩) fun i a8 w8 hi1 s8 z8 x8 => ?_
    refine wp_seq ?_
    refine flowC mixed (s8.keep (sc 0 rfl (sc 1 rfl (sc 4 rfl (sc 5 rfl (sc 6 rfl (sc 35 rfl (sc 36 rfl sn)))))))) (by kernel_rfl) (by kernel_rfl) (cc rfl (p_bin g0 (od rfl id) (od rfl id) b_lss_3) cn) fun a9 w9 b9 s9 => ?_
    have z9 := z8.trans (b9.mono z8.size)
    refine wp_seq ?_
    refine s9.cond 37 rfl (fun h => ?_) (fun h => ?_)
    · -- true
      have hlt1 : i < l.length := by simpa using h
      have em := at_getD hlt1
      have ek := at_getD (turnK_lt ht hlt1)
      refine wp_skip ?_
      refine wp_seq ?_
      refine wp_block ?_
      refine wp_seq ?_
      refine flowC mixed (s9.keep (sc 0 rfl (sc 1 rfl (sc 4 rfl (sc 5 rfl (sc 6 rfl (sc 35 rfl (sc 36 rfl (sc 37 rfl sn))))))))) (by kernel_rfl) (by kernel_rfl) (cc rfl (p_move g0 (od rfl id))
          (cc rfl (p_assign g0 (od rfl id)) cn)) fun a10 w10 b10 s10 => ?_
      have z10 := z9.trans (b10.mono z9.size)
      refine wp_seq ?_
      refine flowC mixed (s10.keep (sc 0 rfl (sc 1 rfl (sc 4 rfl (sc 5 rfl (sc 6 rfl (sc 7 rfl (sc 35 rfl (sc 36 rfl (sc 37 rfl (sc 38 rfl sn))))))))))) (by kernel_rfl) (by kernel_rfl) (cc rfl (p_assign g0 (oc _))
          (cc rfl (p_assign g0 (oc _)) cn)) fun a11 w11 b11 s11 => ?_
      have z11 := z10.trans (b11.mono z10.size)
      refine wp_seq ?_
      refine flowH 5 mixed (s11.keep (sc 0 rfl (sc 1 rfl (sc 4 rfl (sc 5 rfl (sc 6 rfl (sc 7 rfl (sc 8 rfl (sc 9 rfl (sc 35 rfl (sc 36 rfl (sc 37 rfl (sc 38 rfl sn))))))))))))) (by kernel_rfl) (by kernel_rfl) (cc rfl (p_move g0 (od rfl id))
          (cc rfl (p_move g0 (od rfl id))
          (cc rfl (p_index ix_41 em g0 (od rfl id) (od rfl id))
          (cc rfl (p_load Try.underlying69 rfl sz_69 g0 (od rfl id))
          (ca rfl (m_alloc al_69 (fun h => h.elim)) cn))))) (by kernel_rfl) fun a12 w12 gs12 b12 s12 n12 hh12 m12 => ?_
      have z12 := z11.trans (b12.mono z11.size)
      obtain ⟨g10, rfl, p10, k10⟩ := made1 m12
      have hg10 := Nat.le_trans z11.size (hh12 g10 (by simp))
      have s12 := s12.more 10 (y := .val (.pointer (some ⟨g10, 0, none⟩))) p10
      show wpList _ _ _ (_ :: _) _ _
      refine store_own 10 42 s12 rfl rfl rfl sz_69 rfl rfl k10 rfl (fun _ => .inr (by simp)) (fun h => h.elim) fun w13 c13 y13 q13 k10 l13 s13 => wpList_done ?_
      have z13 := q13 _ _ z12 hg10
      refine wp_seq ?_
      obtain rfl : c13 = (mapE (l.getD i noM)).toArray := by rw [← (mapF _ _ _ _).1 l13]
      have e10 := s13.get 10 rfl
      have o10 := (s13.off).more 10 (y := .both (.val (.pointer (some ⟨g10, 0, none⟩))) (.at mapL (l.getD i noM))) ⟨e10, by rw [e10]; exact at_of_blk k10 ((mapF _ _ _ _).2 rfl) (fun _ h => h)⟩
      have o10 := o10.more 7 (y := .int .i64 (i : Int)) (o10.get 7 rfl)
      refine wp_region_lit ?_
      refine chainK 7 (cc rfl (p_fieldAddr pt69_0 fa_69_0 g0 (od2 rfl id))
          (cc rfl (p_loadI ld_3 g0 (od rfl id))
          (cc rfl (p_bin g0 (od rfl id) (oc _) b_and_3)
          (cc rfl (p_move g0 (od rfl id))
          (cc rfl (p_bin g0 (oc _) (od rfl id) b_mul_3)
          (cc rfl (p_bin g0 (od rfl id) (od rfl id) b_add_3)
          (cc rfl (p_faV fa_69_0 g0 (od rfl id)) cn))))))) (by kernel_rfl) (o10.keep (sc 0 rfl (sc 1 rfl (sc 4 rfl (sc 5 rfl (sc 6 rfl (sc 7 rfl (sc 8 rfl (sc 9 rfl (sc 10 rfl (sc 35 rfl (sc 36 rfl (sc 37 rfl (sc 38 rfl (sc 39 rfl (sc 40 rfl (sc 41 rfl (sc 42 rfl sn)))))))))))))))))) fun a14 w14 b14 s14 => ?_
      have z14 := z13.trans (b14.mono z13.size)
      have k10 := k10.below b14 k10.lt
      have e10 := (s14.get 10 rfl).1
      have u14 := s14.unoff (fok_blk k10) (uv 7 rfl (uv 48 rfl (uv 49 rfl (uo 0 rfl (uo 1 rfl (uo 4 rfl (uo 5 rfl (uo 6 rfl (uo 8 rfl (uo 9 rfl (uo 35 rfl (uo 36 rfl (uo 37 rfl (uo 38 rfl (uo 39 rfl (uo 40 rfl (uo 41 rfl (uo 42 rfl un))))))))))))))))))
      show wpList _ _ _ (_ :: _) _ _
      refine wpList_store_cell rfl 3 (.tmp 49) (.tmp 48) rfl g10 0 _ (u14.get 49 rfl) (u14.get 48 rfl) rfl (by rw [k10.cell]; simp [mapE]) (k10.frozen 0) (by kernel_rfl) rfl (wpList_done ?_)
      have v14 := ((u14.wrote (keeps_setCells fun _ => .inr (by simp)) (fok_set k10 _)).less (F' := noF) (fun _ h => h.elim)).more 10 (y := .at mapL { (l.getD i noM) with pa := IntKind.i64.wrap (bits .and .i64 (l.getD i noM).pa 15 + IntKind.i64.wrap (40 * ((i : Nat) : Int))) }) (by rw [show _ = _ from e10]; exact at_of_blk (blk_pa k10 _) ((mapF _ _ _ _).2 rfl) (fun _ h => h))
      have x14 := z14.grown (only_setCells [.int .i64 (IntKind.i64.wrap (bits .and .i64 (l.getD i noM).pa 15 + IntKind.i64.wrap (40 * ((i : Nat) : Int))))] 0 (only_refl _ _)) z14.size (fun k e => by injection e with e; rw [← e]; exact hg10)
      have v14 := v14.more 10 (y := .at mapL (placed l i)) (by have q := v14.get 10 rfl; rw [mv_is _ _ (by omega)] at q; exact q)
      refine wp_seq ?_
      refine flowT (v14.keep (sc 0 rfl (sc 1 rfl (sc 4 rfl (sc 5 rfl (sc 6 rfl (sc 7 rfl (sc 8 rfl (sc 9 rfl (sc 10 rfl (sc 35 rfl (sc 36 rfl (sc 37 rfl (sc 38 rfl (sc 39 rfl (sc 40 rfl (sc 41 rfl (sc 42 rfl sn)))))))))))))))))) (by kernel_rfl) (cc rfl (p_move g0 (od rfl id))
          (cc rfl (p_load Try.underlying69 rfl sz_69 g0 (od rfl id))
          (cc rfl (p_call 24 g0 (ox (od rfl id) (ox (od rfl id) ox0)) (fun _ _ => by kernel_rfl) (f24 (by rw [mvs_len]; omega)))
          (cc rfl (p_move g0 (od rfl id))
          (cc rfl (p_ext0 g0 (od rfl id))
          (cc rfl (p_ext1 g0 (od rfl id))
          (cc rfl (p_assign g0 (od rfl id))
          (cc rfl (p_assign g0 (od rfl id)) cn)))))))) fun a15 w15 b15 s15 => ?_
      have z15 := x14.trans (b15.mono x14.size)
      refine wp_seq ?_
      refine flowC mixed (s15.keep (sc 0 rfl (sc 1 rfl (sc 4 rfl (sc 5 rfl (sc 6 rfl (sc 7 rfl (sc 8 rfl (sc 9 rfl (sc 10 rfl (sc 35 rfl (sc 36 rfl (sc 37 rfl (sc 38 rfl (sc 39 rfl (sc 40 rfl (sc 41 rfl (sc 42 rfl (sc 50 rfl (sc 51 rfl (sc 52 rfl (sc 53 rfl (sc 54 rfl (sc 55 rfl sn)))))))))))))))))))))))) (by kernel_rfl) (by kernel_rfl) (cc rfl (p_move g0 (od rfl id))
          (cc rfl (p_move g0 (od rfl id))
          (cc rfl (p_bin g0 (od rfl id) (od rfl id) b_add_3)
          (cc rfl (p_move g0 (od rfl id))
          (cc rfl (p_len ln_41 g0 (od rfl id))
          (cc rfl (p_bin g0 (od rfl id) (od rfl id) (b_rem_3 (by omega)))
          (cc rfl (p_assign g0 (od rfl id)) cn))))))) fun a16 w16 b16 s16 => ?_
      have z16 := z15.trans (b16.mono z15.size)
      have s16 := s16.more 11 (y := .int .i64 ((turnK l t i : Nat) : Int)) (int_as (s16.get 11 rfl) (turnK_is ht hlt1 hl16))
      refine wp_seq ?_
      refine flowH 5 mixed (s16.keep (sc 0 rfl (sc 1 rfl (sc 4 rfl (sc 5 rfl (sc 6 rfl (sc 7 rfl (sc 8 rfl (sc 9 rfl (sc 10 rfl (sc 11 rfl (sc 35 rfl (sc 36 rfl (sc 37 rfl (sc 38 rfl (sc 39 rfl (sc 40 rfl (sc 41 rfl (sc 42 rfl (sc 50 rfl (sc 51 rfl (sc 52 rfl (sc 53 rfl (sc 54 rfl (sc 55 rfl (sc 56 rfl (sc 57 rfl (sc 58 rfl (sc 59 rfl (sc 60 rfl (sc 61 rfl sn))))))))))))))))))))))))))))))) (by kernel_rfl) (by kernel_rfl) (cc rfl (p_move g0 (od rfl id))
          (cc rfl (p_move g0 (od rfl id))
          (cc rfl (p_index ix_41 ek g0 (od rfl id) (od rfl id))
          (cc rfl (p_load Try.underlying69 rfl sz_69 g0 (od rfl id))
          (ca rfl (m_alloc al_69 (fun h => h.elim)) cn))))) (by kernel_rfl) fun a17 w17 gs17 b17 s17 n17 hh17 m17 => ?_
      have z17 := z16.trans (b17.mono z16.size)
      obtain ⟨g12, rfl, p12, k12⟩ := made1 m17
      have hg12 := Nat.le_trans z16.size (hh17 g12 (by simp))
      have s17 := s17.more 12 (y := .val (.pointer (some ⟨g12, 0, none⟩))) p12
      show wpList _ _ _ (_ :: _) _ _
      refine store_own 12 65 s17 rfl rfl rfl sz_69 rfl rfl k12 rfl (fun _ => .inr (by simp)) (fun h => h.elim) fun w18 c18 y18 q18 k12 l18 s18 => wpList_done ?_
      have z18 := q18 _ _ z17 hg12
      refine wp_seq ?_
      obtain rfl : c18 = (mapE (l.getD (turnK l t i) noM)).toArray := by rw [← (mapF _ _ _ _).1 l18]
      have e12 := s18.get 12 rfl
      have o12 := (s18.off).more 12 (y := .both (.val (.pointer (some ⟨g12, 0, none⟩))) (.at mapL (l.getD (turnK l t i) noM))) ⟨e12, by rw [e12]; exact at_of_blk k12 ((mapF _ _ _ _).2 rfl) (fun _ h => h)⟩
      have o12 := o12.more 11 (y := .int .i64 ((turnK l t i : Nat) : Int)) (o12.get 11 rfl)
      refine wp_region_lit ?_
      refine chainK 7 (cc rfl (p_fieldAddr pt69_0 fa_69_0 g0 (od2 rfl id))
          (cc rfl (p_loadI ld_3 g0 (od rfl id))
          (cc rfl (p_bin g0 (od rfl id) (oc _) b_and_3)
          (cc rfl (p_move g0 (od rfl id))
          (cc rfl (p_bin g0 (oc _) (od rfl id) b_mul_3)
          (cc rfl (p_bin g0 (od rfl id) (od rfl id) b_add_3)
          (cc rfl (p_faV fa_69_0 g0 (od rfl id)) cn))))))) (by kernel_rfl) (o12.keep (sc 0 rfl (sc 1 rfl (sc 4 rfl (sc 5 rfl (sc 6 rfl (sc 7 rfl (sc 8 rfl (sc 9 rfl (sc 10 rfl (sc 11 rfl (sc 12 rfl (sc 35 rfl (sc 36 rfl (sc 37 rfl (sc 38 rfl (sc 39 rfl (sc 40 rfl (sc 41 rfl (sc 42 rfl (sc 50 rfl (sc 51 rfl (sc 52 rfl (sc 53 rfl (sc 54 rfl (sc 55 rfl (sc 56 rfl (sc 57 rfl (sc 58 rfl (sc 59 rfl (sc 60 rfl (sc 61 rfl (sc 62 rfl (sc 63 rfl (sc 64 rfl (sc 65 rfl sn)))))))))))))))))))))))))))))))))))) fun a19 w19 b19 s19 => ?_
      have z19 := z18.trans (b19.mono z18.size)
      have k12 := k12.below b19 k12.lt
      have e12 := (s19.get 12 rfl).1
      have u19 := s19.unoff (fok_blk k12) (uv 11 rfl (uv 71 rfl (uv 72 rfl (uo 0 rfl (uo 1 rfl (uo 4 rfl (uo 5 rfl (uo 6 rfl (uo 7 rfl (uo 8 rfl (uo 9 rfl (uo 10 rfl (uo 35 rfl (uo 36 rfl (uo 37 rfl (uo 38 rfl (uo 39 rfl (uo 40 rfl (uo 41 rfl (uo 42 rfl (uo 50 rfl (uo 51 rfl (uo 52 rfl (uo 53 rfl (uo 54 rfl (uo 55 rfl (uo 56 rfl (uo 57 rfl (uo 58 rfl (uo 59 rfl (uo 60 rfl (uo 61 rfl (uo 62 rfl (uo 63 rfl (uo 64 rfl (uo 65 rfl un))))))))))))))))))))))))))))))))))))
      show wpList _ _ _ (_ :: _) _ _
      refine wpList_store_cell rfl 3 (.tmp 72) (.tmp 71) rfl g12 0 _ (u19.get 72 rfl) (u19.get 71 rfl) rfl (by rw [k12.cell]; simp [mapE]) (k12.frozen 0) (by kernel_rfl) rfl (wpList_done ?_)
      have v19 := ((u19.wrote (keeps_setCells fun _ => .inr (by simp)) (fok_set k12 _)).less (F' := noF) (fun _ h => h.elim)).more 12 (y := .at mapL { (l.getD (turnK l t i) noM) with pa := IntKind.i64.wrap (bits .and .i64 (l.getD (turnK l t i) noM).pa 15 + IntKind.i64.wrap (40 * (((turnK l t i) : Nat) : Int))) }) (by rw [show _ = _ from e12]; exact at_of_blk (blk_pa k12 _) ((mapF _ _ _ _).2 rfl) (fun _ h => h))
      have x19 := z19.grown (only_setCells [.int .i64 (IntKind.i64.wrap (bits .and .i64 (l.getD (turnK l t i) noM).pa 15 + IntKind.i64.wrap (40 * (((turnK l t i) : Nat) : Int))))] 0 (only_refl _ _)) z19.size (fun k e => by injection e with e; rw [← e]; exact hg12)
      have v19 := v19.more 12 (y := .at mapL (placed l (turnK l t i))) (by have q := v19.get 12 rfl; rw [mv_is _ _ (by have := turnK_lt ht hlt1; omega)] at q; exact q)
      refine wp_seq ?_
      refine flowT (v19.keep (sc 0 rfl (sc 1 rfl (sc 4 rfl (sc 5 rfl (sc 6 rfl (sc 7 rfl (sc 8 rfl (sc 9 rfl (sc 10 rfl (sc 11 rfl (sc 12 rfl (sc 35 rfl (sc 36 rfl (sc 37 rfl (sc 38 rfl (sc 39 rfl (sc 40 rfl (sc 41 rfl (sc 42 rfl (sc 50 rfl (sc 51 rfl (sc 52 rfl (sc 53 rfl (sc 54 rfl (sc 55 rfl (sc 56 rfl (sc 57 rfl (sc 58 rfl (sc 59 rfl (sc 60 rfl (sc 61 rfl (sc 62 rfl (sc 63 rfl (sc 64 rfl (sc 65 rfl sn)))))))))))))))))))))))))))))))))))) (by kernel_rfl) (cc rfl (p_move g0 (od rfl id))
          (cc rfl (p_load Try.underlying69 rfl sz_69 g0 (od rfl id))
          (cc rfl (p_call 24 g0 (ox (od rfl id) (ox (od rfl id) ox0)) (fun _ _ => by kernel_rfl) (f24 (by rw [ordB_len ht]; omega)))
          (cc rfl (p_move g0 (od rfl id))
          (cc rfl (p_ext0 g0 (od rfl id))
          (cc rfl (p_ext1 g0 (od rfl id))
          (cc rfl (p_assign g0 (od rfl id))
          (cc rfl (p_assign g0 (od rfl id)) cn)))))))) fun a20 w20 b20 s20 => ?_
      have z20 := x19.trans (b20.mono x19.size)
      refine wp_seq ?_
      refine flowC mixed (s20.keep (sc 0 rfl (sc 1 rfl (sc 4 rfl (sc 5 rfl (sc 6 rfl (sc 7 rfl (sc 8 rfl (sc 9 rfl (sc 10 rfl (sc 11 rfl (sc 12 rfl (sc 35 rfl (sc 36 rfl (sc 37 rfl (sc 38 rfl (sc 39 rfl (sc 40 rfl (sc 41 rfl (sc 42 rfl (sc 50 rfl (sc 51 rfl (sc 52 rfl (sc 53 rfl (sc 54 rfl (sc 55 rfl (sc 56 rfl (sc 57 rfl (sc 58 rfl (sc 59 rfl (sc 60 rfl (sc 61 rfl (sc 62 rfl (sc 63 rfl (sc 64 rfl (sc 65 rfl (sc 73 rfl (sc 74 rfl (sc 75 rfl (sc 76 rfl (sc 77 rfl (sc 78 rfl sn)))))))))))))))))))))))))))))))))))))))))) (by kernel_rfl) (by kernel_rfl) (cc rfl (p_move g0 (od rfl id))
          (cc rfl (p_bin g0 (od rfl id) (oc _) b_neq_73)
          (cc rfl (p_move g0 (od rfl id))
          (cc rfl (p_move (g1 rfl rfl) (od rfl (fun _ => rfl)))
          (cc rfl (p_bin (g1 rfl rfl) (od rfl id) (oc _) b_neq_73)
          (cc rfl (p_or g0 (od rfl id) (od rfl id)) cn)))))) fun a21 w21 b21 s21 => ?_
      have z21 := z20.trans (b21.mono z20.size)
      refine s21.cond 84 rfl (fun h84 => ?_) (fun h84 => ?_)
      · -- true
        have hbad := ord_bad x8.1 x8.2 hl16 ht hlt1 h84
        refine wp_seq ?_
        refine flowT (s21.keep (sc 0 rfl (sc 1 rfl (sc 4 rfl (sc 5 rfl (sc 6 rfl (sc 7 rfl (sc 8 rfl (sc 9 rfl (sc 10 rfl (sc 11 rfl (sc 12 rfl (sc 35 rfl (sc 36 rfl (sc 37 rfl (sc 38 rfl (sc 39 rfl (sc 40 rfl (sc 41 rfl (sc 42 rfl (sc 50 rfl (sc 51 rfl (sc 52 rfl (sc 53 rfl (sc 54 rfl (sc 55 rfl (sc 56 rfl (sc 57 rfl (sc 58 rfl (sc 59 rfl (sc 60 rfl (sc 61 rfl (sc 62 rfl (sc 63 rfl (sc 64 rfl (sc 65 rfl (sc 73 rfl (sc 74 rfl (sc 75 rfl (sc 76 rfl (sc 77 rfl (sc 78 rfl (sc 79 rfl (sc 80 rfl (sc 81 rfl (sc 82 rfl (sc 83 rfl (sc 84 rfl sn)))))))))))))))))))))))))))))))))))))))))))))))) (by kernel_rfl) (cc rfl (p_move g0 (od rfl id))
            (cc rfl (p_bin g0 (od rfl id) (oc _) b_neq_73)
            (cc rfl (p_move g0 (od rfl id))
            (cc rfl (p_load Try.underlying69 rfl sz_69 (g1 rfl rfl) (od rfl (fun _ => rfl)))
            (cc rfl (p_call 21 (g1 rfl rfl) (ox (od rfl id) ox0) (fun _ _ => by kernel_rfl) f21)
            (cc rfl (p_not (g1 rfl rfl) (od rfl id))
            (cc rfl (p_and g0 (od rfl id) (od rfl id))
            (cc rfl (p_move g0 (od rfl id))
            (cc rfl (p_move (g1 rfl rfl) (od rfl (fun _ => rfl)))
            (cc rfl (p_bin (g1 rfl rfl) (od rfl id) (oc _) b_neq_73)
            (cc rfl (p_move (g1 rfl rfl) (od rfl id))
            (cc rfl (p_load Try.underlying69 rfl sz_69 (g1 rfl rfl) (od rfl (fun _ => rfl)))
            (cc rfl (p_call 21 (g1 rfl rfl) (ox (od rfl id) ox0) (fun _ _ => by kernel_rfl) f21)
            (cc rfl (p_not (g1 rfl rfl) (od rfl id))
            (cc rfl (p_and (g1 rfl rfl) (od rfl id) (od rfl id))
            (cc rfl (p_or g0 (od rfl id) (od rfl id))
            (cc rfl (p_assign g0 (od rfl id)) cn))))))))))))))))) fun a22 w22 b22 s22 => ?_
        have z22 := z21.trans (b22.mono z21.size)
        exact wp_ret (ret_law (fn := Try.f6) s22 4 rfl rfl hbad z22)
      · -- false
        obtain ⟨hfA, hfB, eA, eB⟩ := ord_good x8.1 x8.2 hl16 ht hlt1 h84
        have s21 := s21.more 5 (y := .one (Lay.sl mapL) (mvs l 0 (i + 1))) (by have q := s21.get 5 rfl; rw [eA] at q; exact q)
        have s21 := s21.more 6 (y := .one (Lay.sl mapL) (ordB l t (i + 1))) (by have q := s21.get 6 rfl; rw [eB] at q; exact q)
        refine wp_skip ?_
        refine flowT (s21.keep (sc 0 rfl (sc 1 rfl (sc 4 rfl (sc 5 rfl (sc 6 rfl (sc 7 rfl (sc 8 rfl (sc 9 rfl (sc 10 rfl (sc 11 rfl (sc 12 rfl (sc 35 rfl (sc 36 rfl (sc 37 rfl (sc 38 rfl (sc 39 rfl (sc 40 rfl (sc 41 rfl (sc 42 rfl (sc 50 rfl (sc 51 rfl (sc 52 rfl (sc 53 rfl (sc 54 rfl (sc 55 rfl (sc 56 rfl (sc 57 rfl (sc 58 rfl (sc 59 rfl (sc 60 rfl (sc 61 rfl (sc 62 rfl (sc 63 rfl (sc 64 rfl (sc 65 rfl (sc 73 rfl (sc 74 rfl (sc 75 rfl (sc 76 rfl (sc 77 rfl (sc 78 rfl (sc 79 rfl (sc 80 rfl (sc 81 rfl (sc 82 rfl (sc 83 rfl (sc 84 rfl sn)))))))))))))))))))))))))))))))))))))))))))))))) (by kernel_rfl) (cc rfl (p_bin g0 (od rfl id) (oc _) (inc_3 (by omega)))
            (cc rfl (p_move g0 (od rfl id)) cn)) fun a23 w23 b23 s23 => ?_
        have z23 := z21.trans (b23.mono z21.size)
        exact ⟨hlt1, s23.to _ ⟨rfl, rfl, rfl, rfl, rfl, rfl, rfl, True.intro⟩, z23, ⟨okA_succ x8.1 hfA, okB_succ x8.2 hfB⟩⟩
    · -- false
      obtain rfl : i = l.length := by have := of_decide_eq_false h; (try dsimp only at this); omega
      have s9 := s9.more 6 (y := .one (Lay.sl mapL) (mvs l 0 l.length)) (by have q := s9.get 6 rfl; rw [ordB_end ht] at q; exact q)
      have hright : rightB (mvs l 0 l.length) = true := by unfold rightB; rw [right_mvs x8.1, Bool.true_and, decide_eq_true_eq, mvs_len]; omega
      refine wp_exit ?_
      refine wp_seq ?_
      refine wp_seq ?_
      refine flowC mixed (s9.keep (sc 0 rfl (sc 1 rfl (sc 4 rfl (sc 5 rfl (sc 6 rfl (sc 35 rfl (sc 36 rfl sn)))))))) (by kernel_rfl) (by kernel_rfl) (cc rfl (p_move g0 (od rfl id))
          (cc rfl (p_len ln_41 g0 (od rfl id))
          (cc rfl (p_move g0 (od rfl id))
          (cc rfl (p_len ln_41 g0 (od rfl id))
          (cc rfl (p_bin g0 (od rfl id) (od rfl id) b_neq_3) cn))))) fun a24 w24 b24 s24 => ?_
      have z24 := z9.trans (b24.mono z9.size)
      refine s24.cond 106 rfl (fun h => absurd h (by simp)) fun _ => ?_
      refine wp_skip ?_
      refine wp_seq ?_
      refine wp_seq ?_
      refine flowC mixed (s24.keep (sc 0 rfl (sc 1 rfl (sc 4 rfl (sc 5 rfl (sc 6 rfl (sc 35 rfl (sc 36 rfl sn)))))))) (by kernel_rfl) (by kernel_rfl) (cc rfl (p_move g0 (od rfl id))
          (cc rfl (p_len ln_41 g0 (od rfl id))
          (cc rfl (p_move g0 (oc _)) cn))) fun a25 w25 b25 s25 => ?_
      have z25 := z24.trans (b25.mono z24.size)
      refine wp_block ?_
      refine wp_range ((mvs l 0 l.length).length) 109 (fun i => []) (fun _ _ => True) (s25.keep (sc 109 rfl (sc 0 rfl (sc 1 rfl (sc 4 rfl (sc 5 rfl (sc 6 rfl (sc 35 rfl (sc 36 rfl (sc 108 rfl sn)))))))))) z25 True.intro fun i a26 w26 hi2 s26 z26 x26 => ?_
      refine wp_seq ?_
      refine flowC mixed (s26.keep (sc 0 rfl (sc 1 rfl (sc 4 rfl (sc 5 rfl (sc 6 rfl (sc 35 rfl (sc 36 rfl (sc 108 rfl (sc 109 rfl sn)))))))))) (by kernel_rfl) (by kernel_rfl) (cc rfl (p_bin g0 (od rfl id) (od rfl id) b_lss_3) cn) fun a27 w27 b27 s27 => ?_
      have z27 := z26.trans (b27.mono z26.size)
      refine wp_seq ?_
      refine s27.cond 110 rfl (fun h => ?_) (fun h => ?_)
      · -- true
        have hlt2 : i < (mvs l 0 l.length).length := by simpa using h
        have em := at_getD hlt2
        have hl2 : (mvs l 0 l.length).length = l.length := by rw [mvs_len]; omega
        refine wp_skip ?_
        refine wp_seq ?_
        refine wp_block ?_
        refine wp_seq ?_
        refine flowC mixed (s27.keep (sc 0 rfl (sc 1 rfl (sc 4 rfl (sc 5 rfl (sc 6 rfl (sc 35 rfl (sc 36 rfl (sc 108 rfl (sc 109 rfl (sc 110 rfl sn))))))))))) (by kernel_rfl) (by kernel_rfl) (cc rfl (p_move g0 (od rfl id))
            (cc rfl (p_assign g0 (od rfl id)) cn)) fun a28 w28 b28 s28 => ?_
        have z28 := z27.trans (b28.mono z27.size)
        refine wp_seq ?_
        refine flowC mixed (s28.keep (sc 0 rfl (sc 1 rfl (sc 4 rfl (sc 5 rfl (sc 6 rfl (sc 13 rfl (sc 35 rfl (sc 36 rfl (sc 108 rfl (sc 109 rfl (sc 110 rfl (sc 111 rfl sn))))))))))))) (by kernel_rfl) (by kernel_rfl) (cc rfl (p_move g0 (od rfl id))
            (cc rfl (p_move g0 (od rfl id))
            (cc rfl (p_index ix_41 em g0 (od rfl id) (od rfl id))
            (cc rfl (p_load Try.underlying69 rfl sz_69 g0 (od rfl id))
            (cc rfl (p_move g0 (od rfl id))
            (cc rfl (p_move g0 (od rfl id))
            (cc rfl (p_index ix_41 em g0 (od rfl id) (od rfl id))
            (cc rfl (p_load Try.underlying69 rfl sz_69 g0 (od rfl id))
            (cc rfl (p_eqM g0 (od rfl id) (od rfl id) bm_neq) cn))))))))) fun a29 w29 b29 s29 => ?_
        have z29 := z28.trans (b29.mono z28.size)
        refine s29.cond 120 rfl (fun h => absurd h (by simp)) fun _ => ?_
        refine wp_skip ?_
        refine flowT (s29.keep (sc 0 rfl (sc 1 rfl (sc 4 rfl (sc 5 rfl (sc 6 rfl (sc 13 rfl (sc 35 rfl (sc 36 rfl (sc 108 rfl (sc 109 rfl (sc 110 rfl (sc 111 rfl (sc 112 rfl (sc 113 rfl (sc 114 rfl (sc 115 rfl (sc 116 rfl (sc 117 rfl (sc 118 rfl (sc 119 rfl (sc 120 rfl sn)))))))))))))))))))))) (by kernel_rfl) (cc rfl (p_bin g0 (od rfl id) (oc _) (inc_3 (by omega)))
            (cc rfl (p_move g0 (od rfl id)) cn)) fun a30 w30 b30 s30 => ?_
        have z30 := z29.trans (b30.mono z29.size)
        exact ⟨hlt2, s30.to _ ⟨rfl, rfl, rfl, rfl, rfl, rfl, rfl, rfl, rfl, True.intro⟩, z30, True.intro⟩
      · -- false
        obtain rfl : i = (mvs l 0 l.length).length := by have := of_decide_eq_false h; (try dsimp only at this); omega
        refine wp_exit ?_
        refine wp_seq ?_
        refine flowT (s27.keep (sc 0 rfl (sc 1 rfl (sc 4 rfl (sc 5 rfl (sc 6 rfl (sc 35 rfl (sc 36 rfl (sc 108 rfl (sc 109 rfl sn)))))))))) (by kernel_rfl) (cc rfl (p_move g0 (od rfl id))
            (cc rfl (p_call 23 g0 (ox (od rfl id) ox0) (fun _ _ => by kernel_rfl) (f23 (by rw [mvs_len]; unfold maxLen; omega)))
            (cc rfl (p_assign g0 (od rfl id)) cn))) fun a31 w31 b31 s31 => ?_
        have z31 := z27.trans (b31.mono z27.size)
        exact wp_ret (ret_law (fn := Try.f6) s31 4 rfl rfl hright z31)

set_option maxRecDepth 100000 in
theorem mapsOrder_lifted (os : Os) (started : os.Started) (H : Type) (enc : TypeId × Value → H) :
    ReturnsInHanded {} Try.checked os 6 .any (Rows.mapsOrderSpec.pre6 enc Try.prog Try.f6 Rows.mapsOrderRow.domain false) (Rows.mapsOrderSpec.post enc Try.prog Try.f6 false true false false) := by
  refine lifted_of (C := Try.checked) laidOut own started (by kernel_rfl) Try.func6 rfl Try.underlying4 (by kernel_rfl) rfl
    (fun ds hds => by match ds, hds with | [_, _], _ => rfl)
    (ChangeSpec.witness6 (enc := enc) (C := Try.checked) false ⟨#[], #[.slice none 0 0, .int .i64 0], []⟩ 8 (by kernel_rfl) (by kernel_rfl) (by kernel_rfl) (by kernel_rfl)) ?_
  intro w base args ds ps hval0 hA0 hlt
  have hval : ∀ (j : Nat) t v, Try.f6.params[j]? = some t → args[j]? = some v → Value.okWide Try.prog w .any base t v := hval0
  have hA : DataW.TrodAll enc Try.prog w 0 (fun _ => true) true Try.f6.params.toList args.toList ds ps := hA0
  rw [Try.params6] at hA hval
  obtain ⟨v0, vs0, d0, ds0, p0, q0, hargs, rfl, rfl, h0, r0⟩ := trodAll_cons hA
  obtain ⟨v1, vs1, d1, ds1, p1, q1, rfl, rfl, rfl, h1, r1⟩ := trodAll_cons r0
  obtain ⟨rfl, rfl, rfl⟩ := trodAll_nil r1
  obtain rfl : args = #[v0, v1] := by cases args; simp_all
  obtain ⟨x0, o0, s0⟩ := open_sl Try.underlying41 opens_maps (hval 0 41 v0 rfl rfl) h0 (fun x hx => hlt x (List.mem_append_left _ hx))
  obtain ⟨x1, rfl, rfl, rfl, o1⟩ := open_int Try.underlying3 (hval 1 3 v1 rfl rfl) h1
  exact mapsOrder_walk w v0 _ x0 _ o0 s0 rfl

set_option maxRecDepth 100000 in
theorem mapsOrder_facts : joinedFacts Try.pinned.checked.prog 6 Try.f6 Rows.mapsOrderSpec Rows.mapsOrderRow = true := by
  show joinedFacts Try.prog 6 Try.f6 Rows.mapsOrderSpec Rows.mapsOrderRow = true
  unfold joinedFacts
  rw [mayEnter_ok, liftsFinal_ok, make_ok]
  kernel_rfl
theorem mapsOrder_holds : Rows.MapsOrderSaid :=
  OpenClaim.holds_of_wide 6 Try.f6 rfl rfl rfl rfl rfl rfl rfl ⟨rfl, rfl, rfl, rfl, rfl⟩ rfl rfl rfl rfl rfl (by kernel_rfl) Try.func6 mapsOrder_facts
    (of_decide_eq_true (by kernel_rfl)) (by unfold Func.isWrapper; rw [if_neg (of_decide_eq_false (by kernel_rfl))]; exact ⟨rfl, rfl⟩)
    (fun os started H enc _ => mapsOrder_lifted os started H enc)
#print axioms mapsOrder_holds

end Go.Proofs.Ytbeeiecbbmiojaa.Y
