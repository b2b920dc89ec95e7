/- The rules: what is trusted; the document's own words for them; the example. -/
import Derived.Test.YtihddficgpjgpaaXrules
import Derived.Test.YtihddficgpjgpaaXright
namespace Go.Proofs.Ytihddficgpjgpaa.X
open Go.RowKit

def trustP (o : Lab) (c : Int) : Bool := !((o.lv c != 0) && (o.lv c != 4))
def trustedB (o t : Lab) : Bool := (ownsL t).all (trustP o)
theorem trust_no {o t : Lab} {i : Nat} {c : Int} (h : (ownsL t)[i]? = some c) (hc : ((o.lv c != 0) && (o.lv c != 4)) = true) : trustedB o t = false := by
  unfold trustedB
  rw [List.all_eq_false]
  exact ⟨c, List.mem_of_getElem? h, by unfold trustP; rw [hc]; simp⟩
theorem trust_go {o t : Lab} {i : Nat} {c : Int} (h : (ownsL t)[i]? = some c) (hc : ((o.lv c != 0) && (o.lv c != 4)) = false) (hx : ((ownsL t).take i).all (trustP o) = true) : ((ownsL t).take (i + 1)).all (trustP o) = true := by
  obtain ⟨hi, rfl⟩ := List.getElem?_eq_some_iff.1 h
  rw [all_take_succ _ _ _ hi, hx]
  unfold trustP
  rw [hc]; rfl
theorem owns_len (a : Lab) : (ownsL a).length ≤ a.ps.length := by
  unfold ownsL
  rw [List.length_map]
  exact List.length_filter_le _ _

set_option maxRecDepth 100000 in
theorem f64 {o t : Lab} {m n : Nat} (hm : m ≤ 500) (hn : n ≤ 500) : Fn True Try.prog 64 [.lb o m, .lb t n] (.bool (trustedB o t)) := fn2 fun w F v0 v1 h0 h1 hF => by
  have hol : (ownsL t).length ≤ 1000 := by have := owns_len t; have := (lab_in h1).2.len; omega
  go_enter Try.func64, Try.ntmps64
  refine wp_seq ?_
  refine flowC mixed (st0 (U := True) (N := 25) (e := [(0, true, .lb o m), (1, true, .lb t n)]) (F := F) rfl rfl hF ⟨⟨rfl, h0⟩, ⟨⟨rfl, h1⟩, True.intro⟩⟩) (by kernel_rfl) (by kernel_rfl) (cc rfl (p_box bx_39 g0 (od rfl id))
      (cc rfl (p_box bx_39 g0 (od rfl id))
      (cc rfl (p_assign g0 (oc _)) cn))) fun a1 w1 b1 s1 => ?_
  have z1 := b1
  refine wp_seq ?_
  refine wp_seq ?_
  refine flowC mixed (s1.keep (sc 2 rfl (sc 3 rfl (sc 4 rfl sn)))) (by kernel_rfl) (by kernel_rfl) (cc rfl (p_load Try.underlying39 rfl sz_39 g0 (od rfl id))
      (cc rfl (p_call 56 g0 (ox (od rfl id) ox0) (fun _ _ => by kernel_rfl) (f56 (by omega)))
      (cc rfl (p_len ln_75 g0 (od rfl id))
      (cc rfl (p_move g0 (oc _)) cn)))) fun a2 w2 b2 s2 => ?_
  have z2 := z1.trans (b2.mono z1.size)
  refine wp_block ?_
  refine wp_range ((ownsL t).length) 11 (fun i => []) (fun i w => ((ownsL t).take i).all (trustP o) = true) (s2.keep (sc 11 rfl (sc 2 rfl (sc 4 rfl (sc 9 rfl (sc 10 rfl sn)))))) z2 (by simp) fun i a3 w3 hi1 s3 z3 x3 => ?_
  refine wp_seq ?_
  refine flowC mixed (s3.keep (sc 2 rfl (sc 4 rfl (sc 9 rfl (sc 10 rfl (sc 11 rfl sn)))))) (by kernel_rfl) (by kernel_rfl) (cc rfl (p_bin g0 (od rfl id) (od rfl id) b_lss_3) cn) fun a4 w4 b4 s4 => ?_
  have z4 := z3.trans (b4.mono z3.size)
  refine wp_seq ?_
  refine s4.cond 12 rfl (fun h => ?_) (fun h => ?_)
  · -- true
    have hlt1 : i < (ownsL t).length := by simpa using h
    obtain ⟨ce, ece⟩ : ∃ x, (ownsL t)[i]? = some x := ⟨_, List.getElem?_eq_getElem hlt1⟩
    refine wp_skip ?_
    refine wp_seq ?_
    refine wp_block ?_
    refine wp_seq ?_
    refine flowC mixed (s4.keep (sc 2 rfl (sc 4 rfl (sc 9 rfl (sc 10 rfl (sc 11 rfl (sc 12 rfl sn))))))) (by kernel_rfl) (by kernel_rfl) (cc rfl (p_index ix_75 ece g0 (od rfl id) (od rfl id))
        (cc rfl (p_loadI ld_70 g0 (od rfl id))
        (cc rfl (p_assign g0 (od rfl id)) cn))) fun a5 w5 b5 s5 => ?_
    have z5 := z4.trans (b5.mono z4.size)
    refine wp_seq ?_
    refine flowC mixed (s5.keep (sc 2 rfl (sc 4 rfl (sc 6 rfl (sc 9 rfl (sc 10 rfl (sc 11 rfl (sc 12 rfl (sc 13 rfl (sc 14 rfl sn)))))))))) (by kernel_rfl) (by kernel_rfl) (cc rfl (p_load Try.underlying39 rfl sz_39 g0 (od rfl id))
        (cc rfl (p_move g0 (od rfl id))
        (cc rfl (p_call 51 g0 (ox (od rfl id) (ox (od rfl id) ox0)) (fun _ _ => by kernel_rfl) (f51 (by omega)))
        (cc rfl (p_assign g0 (od rfl id)) cn)))) fun a6 w6 b6 s6 => ?_
    have z6 := z5.trans (b6.mono z5.size)
    refine wp_seq ?_
    refine flowC mixed (s6.keep (sc 2 rfl (sc 4 rfl (sc 6 rfl (sc 7 rfl (sc 9 rfl (sc 10 rfl (sc 11 rfl (sc 12 rfl (sc 13 rfl (sc 14 rfl (sc 15 rfl (sc 16 rfl (sc 17 rfl sn)))))))))))))) (by kernel_rfl) (by kernel_rfl) (cc rfl (p_move g0 (od rfl id))
        (cc rfl (p_bin g0 (od rfl id) (oc _) b_neq_3)
        (cc rfl (p_move g0 (od rfl id))
        (cc rfl (p_move (g1 rfl rfl) (od rfl (fun _ => rfl)))
        (cc rfl (p_bin (g1 rfl rfl) (od rfl id) (oc _) b_neq_3)
        (cc rfl (p_and g0 (od rfl id) (od rfl id)) cn)))))) fun a7 w7 b7 s7 => ?_
    have z7 := z6.trans (b7.mono z6.size)
    refine s7.cond 23 rfl (fun hcc => ?_) (fun hcc => ?_)
    · -- true
      refine wp_seq ?_
      refine flowT (s7.keep (sc 2 rfl (sc 4 rfl (sc 6 rfl (sc 7 rfl (sc 9 rfl (sc 10 rfl (sc 11 rfl (sc 12 rfl (sc 13 rfl (sc 14 rfl (sc 15 rfl (sc 16 rfl (sc 17 rfl (sc 18 rfl (sc 19 rfl (sc 20 rfl (sc 21 rfl (sc 22 rfl (sc 23 rfl sn)))))))))))))))))))) (by kernel_rfl) (cc rfl (p_assign g0 (oc _)) cn) fun a8 w8 b8 s8 => ?_
      have z8 := z7.trans (b8.mono z7.size)
      exact wp_ret (ret_tmp (fn := Try.f64) (s8.more 4 (y := .bool (trustedB o t)) (show _ = _ from (s8.get 4 (y := .bool false) rfl).trans (congrArg Value.bool (show trustedB o t = false from trust_no ece hcc).symm))) 4 rfl rfl (fun _ h => h) z8)
    · -- false
      refine wp_skip ?_
      refine flowT (s7.keep (sc 2 rfl (sc 4 rfl (sc 6 rfl (sc 7 rfl (sc 9 rfl (sc 10 rfl (sc 11 rfl (sc 12 rfl (sc 13 rfl (sc 14 rfl (sc 15 rfl (sc 16 rfl (sc 17 rfl (sc 18 rfl (sc 19 rfl (sc 20 rfl (sc 21 rfl (sc 22 rfl (sc 23 rfl sn)))))))))))))))))))) (by kernel_rfl) (cc rfl (p_bin g0 (od rfl id) (oc _) (inc_3 (by omega)))
          (cc rfl (p_move g0 (od rfl id)) cn)) fun a9 w9 b9 s9 => ?_
      have z9 := z7.trans (b9.mono z7.size)
      exact ⟨hlt1, s9.to _ ⟨rfl, rfl, rfl, rfl, rfl, True.intro⟩, z9, trust_go ece hcc x3⟩
  · -- false
    obtain rfl : i = (ownsL t).length := by have := of_decide_eq_false h; omega
    refine wp_exit ?_
    refine wp_seq ?_
    refine flowT (s4.keep (sc 2 rfl (sc 4 rfl (sc 9 rfl (sc 10 rfl (sc 11 rfl sn)))))) (by kernel_rfl) (cc rfl (p_assign g0 (oc _)) cn) fun a10 w10 b10 s10 => ?_
    have z10 := z4.trans (b10.mono z4.size)
    exact wp_ret (ret_tmp (fn := Try.f64) (s10.more 4 (y := .bool (trustedB o t)) (show _ = _ from (s10.get 4 (y := .bool true) rfl).trans (congrArg Value.bool (show trustedB o t = true from by have hx := x3; rw [List.take_length] at hx; exact hx).symm))) 4 rfl rfl (fun _ h => h) z10)

set_option maxRecDepth 100000 in
theorem f94 {o t : Lab} {m n : Nat} (hm : m ≤ 500) (hn : n ≤ 500) : Fn True Try.prog 94 [.lb o m, .lb t n] (.bool (trustedB o t)) := fn2 fun w F v0 v1 h0 h1 hF => by
  have hol : (ownsL t).length ≤ 1000 := by have := owns_len t; have := (lab_in h1).2.len; omega
  go_enter Try.func94, Try.ntmps94
  refine wp_seq ?_
  refine flowC mixed (st0 (U := True) (N := 28) (e := [(0, true, .lb o m), (1, true, .lb t n)]) (F := F) rfl rfl hF ⟨⟨rfl, h0⟩, ⟨⟨rfl, h1⟩, True.intro⟩⟩) (by kernel_rfl) (by kernel_rfl) (cc rfl (p_box bx_39 g0 (od rfl id))
      (cc rfl (p_box bx_39 g0 (od rfl id))
      (cc rfl (p_assign g0 (oc _)) cn))) fun a1 w1 b1 s1 => ?_
  have z1 := b1
  refine wp_seq ?_
  refine flowC mixed (s1.keep (sc 2 rfl (sc 3 rfl (sc 4 rfl sn)))) (by kernel_rfl) (by kernel_rfl) (cc rfl (p_load Try.underlying39 rfl sz_39 g0 (od rfl id))
      (cc rfl (p_call 80 g0 (ox (od rfl id) ox0) (fun _ _ => by kernel_rfl) (f80 (by omega)))
      (cc rfl (p_assign g0 (od rfl id)) cn))) fun a2 w2 b2 s2 => ?_
  have z2 := z1.trans (b2.mono z1.size)
  refine wp_seq ?_
  refine wp_seq ?_
  refine flowC mixed (s2.keep (sc 2 rfl (sc 4 rfl (sc 5 rfl sn)))) (by kernel_rfl) (by kernel_rfl) (cc rfl (p_assign g0 (oc _)) cn) fun a3 w3 b3 s3 => ?_
  have z3 := z2.trans (b3.mono z2.size)
  refine wp_block ?_
  refine wp_range ((ownsL t).length) 6 (fun i => []) (fun i w => ((ownsL t).take i).all (trustP o) = true) (s3.keep (sc 6 rfl (sc 2 rfl (sc 4 rfl (sc 5 rfl sn))))) z3 (by simp) fun i a4 w4 hi1 s4 z4 x4 => ?_
  refine wp_seq ?_
  refine wp_seq ?_
  refine flowC mixed (s4.keep (sc 2 rfl (sc 4 rfl (sc 5 rfl (sc 6 rfl sn))))) (by kernel_rfl) (by kernel_rfl) (cc rfl (p_move g0 (od rfl id))
      (cc rfl (p_move g0 (od rfl id))
      (cc rfl (p_len ln_75 g0 (od rfl id))
      (cc rfl (p_bin g0 (od rfl id) (od rfl id) b_lss_3) cn)))) fun a5 w5 b5 s5 => ?_
  have z5 := z4.trans (b5.mono z4.size)
  refine s5.cond 13 rfl (fun h => ?_) (fun h => ?_)
  · -- true
    have hlt1 : i < (ownsL t).length := by simpa using h
    obtain ⟨ce, ece⟩ : ∃ x, (ownsL t)[i]? = some x := ⟨_, List.getElem?_eq_getElem hlt1⟩
    refine wp_skip ?_
    refine wp_seq ?_
    refine wp_block ?_
    refine wp_seq ?_
    refine flowC mixed (s5.keep (sc 2 rfl (sc 4 rfl (sc 5 rfl (sc 6 rfl (sc 10 rfl (sc 11 rfl (sc 12 rfl (sc 13 rfl sn))))))))) (by kernel_rfl) (by kernel_rfl) (cc rfl (p_load Try.underlying39 rfl sz_39 g0 (od rfl id))
        (cc rfl (p_move g0 (od rfl id))
        (cc rfl (p_move g0 (od rfl id))
        (cc rfl (p_index ix_75 ece g0 (od rfl id) (od rfl id))
        (cc rfl (p_loadI ld_70 g0 (od rfl id))
        (cc rfl (p_call 81 g0 (ox (od rfl id) (ox (od rfl id) ox0)) (fun _ _ => by kernel_rfl) (f81 (by omega)))
        (cc rfl (p_assign g0 (od rfl id)) cn))))))) fun a6 w6 b6 s6 => ?_
    have z6 := z5.trans (b6.mono z5.size)
    refine wp_seq ?_
    refine flowC mixed (s6.keep (sc 2 rfl (sc 4 rfl (sc 5 rfl (sc 6 rfl (sc 7 rfl (sc 10 rfl (sc 11 rfl (sc 12 rfl (sc 13 rfl (sc 16 rfl (sc 17 rfl (sc 18 rfl (sc 19 rfl (sc 20 rfl (sc 21 rfl sn)))))))))))))))) (by kernel_rfl) (by kernel_rfl) (cc rfl (p_move g0 (od rfl id))
        (cc rfl (p_bin g0 (od rfl id) (oc _) b_neq_3)
        (cc rfl (p_move g0 (od rfl id))
        (cc rfl (p_move (g1 rfl rfl) (od rfl (fun _ => rfl)))
        (cc rfl (p_bin (g1 rfl rfl) (od rfl id) (oc _) b_neq_3)
        (cc rfl (p_and g0 (od rfl id) (od rfl id)) cn)))))) fun a7 w7 b7 s7 => ?_
    have z7 := z6.trans (b7.mono z6.size)
    refine s7.cond 27 rfl (fun hcc => ?_) (fun hcc => ?_)
    · -- true
      refine wp_seq ?_
      refine flowT (s7.keep (sc 2 rfl (sc 4 rfl (sc 5 rfl (sc 6 rfl (sc 7 rfl (sc 10 rfl (sc 11 rfl (sc 12 rfl (sc 13 rfl (sc 16 rfl (sc 17 rfl (sc 18 rfl (sc 19 rfl (sc 20 rfl (sc 21 rfl (sc 22 rfl (sc 23 rfl (sc 24 rfl (sc 25 rfl (sc 26 rfl (sc 27 rfl sn)))))))))))))))))))))) (by kernel_rfl) (cc rfl (p_assign g0 (oc _)) cn) fun a8 w8 b8 s8 => ?_
      have z8 := z7.trans (b8.mono z7.size)
      exact wp_ret (ret_tmp (fn := Try.f94) (s8.more 4 (y := .bool (trustedB o t)) (show _ = _ from (s8.get 4 (y := .bool false) rfl).trans (congrArg Value.bool (show trustedB o t = false from trust_no ece hcc).symm))) 4 rfl rfl (fun _ h => h) z8)
    · -- false
      refine wp_skip ?_
      refine flowT (s7.keep (sc 2 rfl (sc 4 rfl (sc 5 rfl (sc 6 rfl (sc 7 rfl (sc 10 rfl (sc 11 rfl (sc 12 rfl (sc 13 rfl (sc 16 rfl (sc 17 rfl (sc 18 rfl (sc 19 rfl (sc 20 rfl (sc 21 rfl (sc 22 rfl (sc 23 rfl (sc 24 rfl (sc 25 rfl (sc 26 rfl (sc 27 rfl sn)))))))))))))))))))))) (by kernel_rfl) (cc rfl (p_move g0 (od rfl id))
          (cc rfl (p_bin g0 (od rfl id) (oc _) (inc_3 (by omega)))
          (cc rfl (p_assign g0 (od rfl id)) cn))) fun a9 w9 b9 s9 => ?_
      have z9 := z7.trans (b9.mono z7.size)
      exact ⟨hlt1, s9.to _ ⟨rfl, rfl, rfl, rfl, True.intro⟩, z9, trust_go ece hcc x4⟩
  · -- false
    obtain rfl : i = (ownsL t).length := by have := of_decide_eq_false h; omega
    refine wp_exit ?_
    refine wp_seq ?_
    refine flowT (s5.keep (sc 2 rfl (sc 4 rfl (sc 5 rfl (sc 6 rfl sn))))) (by kernel_rfl) (cc rfl (p_assign g0 (oc _)) cn) fun a10 w10 b10 s10 => ?_
    have z10 := z5.trans (b10.mono z5.size)
    exact wp_ret (ret_tmp (fn := Try.f94) (s10.more 4 (y := .bool (trustedB o t)) (show _ = _ from (s10.get 4 (y := .bool true) rfl).trans (congrArg Value.bool (show trustedB o t = true from by have hx := x4; rw [List.take_length] at hx; exact hx).symm))) 4 rfl rfl (fun _ h => h) z10)

set_option maxRecDepth 100000 in
theorem f69 {t : Lab × Lab} {c : Int} {m n : Nat} (hm : m ≤ 100) (hn : n ≤ 100) (hc : 0 < c) : Fn True Try.prog 69 [.st (whoL m n) t, .int .u32 c] (.two (.st (whoL (m + 1) (n + 1)) (freshL t c)) (.bool (freshB' t c))) := fn2 fun w F v0 v1 h0 h1 hF => by
  go_enter Try.func69, Try.ntmps69
  refine wp_seq ?_
  refine flowN mixed (st0 (U := True) (N := 25) (e := [(0, true, .st (whoL m n) t), (1, true, .int .u32 c)]) (F := F) rfl rfl hF ⟨⟨rfl, h0⟩, ⟨⟨rfl, h1⟩, True.intro⟩⟩) (by kernel_rfl) (by kernel_rfl) (cc rfl (p_box bx_93 g0 (od rfl id))
      (ca rfl (m_alloc al_93 nu83)
      (cc rfl (p_assign g0 (oc _)) cn))) (by kernel_rfl) fun a1 w1 gs1 b1 s1 n1 hh1 m1 => ?_
  have z1 := b1
  obtain ⟨g4, rfl, p4, k4⟩ := made1 m1
  have hg4 := hh1 g4 (by simp)
  have s1 := s1.more 4 (y := .val (.pointer (some ⟨g4, 0, none⟩))) p4
  refine wp_seq ?_
  refine flowQ 10 mixed (s1.keep (sc 1 rfl (sc 2 rfl (sc 4 rfl (sc 5 rfl sn))))) (by kernel_rfl) (by kernel_rfl) (cc rfl (p_fieldAddr ptw0 fa_93_0 g0 (od rfl id))
      (cc rfl (p_load Try.underlying39 rfl sz_39 g0 (od rfl id))
      (cc rfl (p_move g0 (od rfl id))
      (cc rfl (p_call 82 g0 (ox (od rfl id) (ox (od rfl id) (ox (oc _) ox0))) (fun _ _ => by kernel_rfl) (f82 (by omega) hc))
      (cc rfl (p_fieldAddr ptw1 fa_93_1 g0 (od rfl id))
      (cc rfl (p_load Try.underlying39 rfl sz_39 g0 (od rfl id))
      (cc rfl (p_move g0 (od rfl id))
      (cc rfl (p_call 82 g0 (ox (od rfl id) (ox (od rfl id) (ox (oc _) ox0))) (fun _ _ => by kernel_rfl) (f82 (by omega) hc))
      (cc rfl (p_build2 bd_93 g0 (od rfl id) (od rfl id))
      (ca rfl (m_alloc al_93 nu83) cn)))))))))) (by kernel_rfl) (ss rfl rfl rfl rfl puts_st sz_93 rfl rfl ss0) fun a2 w2 b2 s2 => ?_
  have z2 := z1.trans (b2.mono z1.size)
  have k4 := k4.below b2 k4.lt
  refine wp_seq ?_
  refine flowW 10 9 4 16 mixed (s2.keep (sc 4 rfl (sc 6 rfl sn))) (by kernel_rfl) (by kernel_rfl) (cc rfl (p_load Try.underlying93 rfl sz_93 g0 (od rfl id))
      (cc rfl (p_fieldAddr ptw0 fa_93_0 g0 (od rfl id))
      (cc rfl (p_load Try.underlying39 rfl sz_39 g0 (od rfl id))
      (cc rfl (p_call 42 g0 (ox (od rfl id) ox0) (fun _ _ => by kernel_rfl) (f42 (by omega)))
      (cc rfl (p_move g0 (od rfl id))
      (cc rfl (p_fieldAddr ptw1 fa_93_1 (g1 rfl rfl) (od rfl (fun _ => rfl)))
      (cc rfl (p_load Try.underlying39 rfl sz_39 (g1 rfl rfl) (od rfl id))
      (cc rfl (p_call 42 (g1 rfl rfl) (ox (od rfl id) ox0) (fun _ _ => by kernel_rfl) (f42 (by omega)))
      (cc rfl (p_and g0 (od rfl id) (od rfl id))
      (cs rfl cn)))))))))) rfl rfl rfl sz_93 rfl rfl k4 rfl (.inr (by simp)) nuw (by decide) fun a3 w3 c3 r3 s3 k4 l3 => ?_
  have z3 := below_grown z2 r3 hg4
  refine chainT (t := []) (cc rfl (p_assign g0 (od rfl id)) cn) (by kernel_rfl) s3 fun a4 w4 b4 s4 => wpList_done ?_
  have z4 := z3.trans (b4.mono z3.size)
  have k4 := k4.below b4 k4.lt
  exact wp_ret (ret_cell2 (fn := Try.f69) s4 4 5 rfl rfl rfl Try.underlying93 rfl sz_93 k4 (Lay.mono _ l3 (.of b4) fun _ _ h => h) (fun _ h => Or.inl h) z4)

set_option maxRecDepth 100000 in
theorem f92 {t : Lab × Lab} {l : Lab} {m n p : Nat} (hm : m ≤ 100) (hn : n ≤ 100) (hp : p ≤ 100) : Fn True Try.prog 92 [.st (whoL m n) t, .lb l p] (.bool (clearB t l)) := fn2 fun w F v0 v1 h0 h1 hF => by
  go_enter Try.func92, Try.ntmps92
  refine wp_seq ?_
  refine flowC mixed (st0 (U := True) (N := 25) (e := [(0, true, .st (whoL m n) t), (1, true, .lb l p)]) (F := F) rfl rfl hF ⟨⟨rfl, h0⟩, ⟨⟨rfl, h1⟩, True.intro⟩⟩) (by kernel_rfl) (by kernel_rfl) (cc rfl (p_box bx_93 g0 (od rfl id))
      (cc rfl (p_box bx_39 g0 (od rfl id))
      (cc rfl (p_assign g0 (oc _)) cn))) fun a1 w1 b1 s1 => ?_
  have z1 := b1
  refine wp_seq ?_
  refine flowQ 7 mixed (s1.keep (sc 2 rfl (sc 3 rfl (sc 4 rfl sn)))) (by kernel_rfl) (by kernel_rfl) (cc rfl (p_fieldAddr ptw1 fa_93_1 g0 (od rfl id))
      (cc rfl (p_load Try.underlying39 rfl sz_39 g0 (od rfl id))
      (cc rfl (p_fieldAddr ptw0 fa_93_0 g0 (od rfl id))
      (cc rfl (p_load Try.underlying39 rfl sz_39 g0 (od rfl id))
      (cc rfl (p_call 76 g0 (ox (od rfl id) ox0) (fun _ _ => by kernel_rfl) (f76 (by omega)))
      (cc rfl (p_call 75 g0 (ox (od rfl id) (ox (od rfl id) (ox (oc _) ox0))) (fun _ _ => by kernel_rfl) (f75 (by omega)))
      (ca rfl (m_alloc al_39 nu39) cn))))))) (by kernel_rfl) (ss rfl rfl rfl rfl puts_st sz_39 rfl rfl ss0) fun a2 w2 b2 s2 => ?_
  have z2 := z1.trans (b2.mono z1.size)
  refine wp_seq ?_
  refine flowT (s2.keep (sc 2 rfl (sc 3 rfl (sc 4 rfl (sc 5 rfl sn))))) (by kernel_rfl) (cc rfl (p_fieldAddr ptw0 fa_93_0 g0 (od rfl id))
      (cc rfl (p_load Try.underlying39 rfl sz_39 g0 (od rfl id))
      (cc rfl (p_load Try.underlying39 rfl sz_39 g0 (od rfl id))
      (cc rfl (p_call 83 g0 (ox (od rfl id) (ox (od rfl id) ox0)) (fun _ _ => by kernel_rfl) (f83 (by omega)))
      (cc rfl (p_move g0 (od rfl id))
      (cc rfl (p_load Try.underlying39 rfl sz_39 (g1 rfl rfl) (od rfl (fun _ => rfl)))
      (cc rfl (p_load Try.underlying39 rfl sz_39 (g1 rfl rfl) (od rfl (fun _ => rfl)))
      (cc rfl (p_call 83 (g1 rfl rfl) (ox (od rfl id) (ox (od rfl id) ox0)) (fun _ _ => by kernel_rfl) (f83 (by omega)))
      (cc rfl (p_and g0 (od rfl id) (od rfl id))
      (cc rfl (p_move g0 (od rfl id))
      (cc rfl (p_load Try.underlying39 rfl sz_39 (g1 rfl rfl) (od rfl (fun _ => rfl)))
      (cc rfl (p_call 42 (g1 rfl rfl) (ox (od rfl id) ox0) (fun _ _ => by kernel_rfl) (f42 (by omega)))
      (cc rfl (p_and g0 (od rfl id) (od rfl id))
      (cc rfl (p_assign g0 (od rfl id)) cn)))))))))))))) fun a3 w3 b3 s3 => ?_
  have z3 := z2.trans (b3.mono z2.size)
  exact wp_ret (ret_tmp (fn := Try.f92) s3 4 rfl rfl (fun _ h => h) z3)

set_option maxRecDepth 100000 in
theorem f53  : Fn True Try.prog 53 [] (.bool (!changeB (withL ⟨2, []⟩ 7 4) ⟨2, []⟩ && readB (withL ⟨2, []⟩ 7 4) ⟨2, []⟩ && changeB (withL ⟨2, []⟩ 7 4) (withL ⟨2, []⟩ 7 4))) := fn0 fun w F   hF => by
  go_enter Try.func53, Try.ntmps53
  refine wp_seq ?_
  refine flowC mixed (st0 (U := True) (N := 18) (e := []) (F := F) rfl rfl hF True.intro) (by kernel_rfl) (by kernel_rfl) (cc rfl (p_assign g0 (oc _)) cn) fun a1 w1 b1 s1 => ?_
  have z1 := b1
  refine wp_seq ?_
  refine flowQ 3 mixed (s1.keep (sc 0 rfl sn)) (by kernel_rfl) (by kernel_rfl) (cc rfl (p_call 60 g0 (ox (oc _) ox0) (fun _ _ => by kernel_rfl) f60)
      (cc rfl (p_call 50 g0 (ox (od rfl id) (ox (oc _) (ox (oc _) ox0))) (fun _ _ => by kernel_rfl) (f50 (by omega) (by decide)))
      (ca rfl (m_alloc al_39 nu39) cn))) (by kernel_rfl) (ss rfl rfl rfl rfl puts_st sz_39 rfl rfl ss0) fun a2 w2 b2 s2 => ?_
  have z2 := z1.trans (b2.mono z1.size)
  refine wp_seq ?_
  refine flowC mixed (s2.keep (sc 1 rfl sn)) (by kernel_rfl) (by kernel_rfl) (cc rfl (p_load Try.underlying39 rfl sz_39 g0 (od rfl id))
      (cc rfl (p_call 60 g0 (ox (oc _) ox0) (fun _ _ => by kernel_rfl) f60)
      (cc rfl (p_call 55 g0 (ox (od rfl id) (ox (od rfl id) ox0)) (fun _ _ => by kernel_rfl) (f55 (by omega) (by omega)))
      (cc rfl (p_not g0 (od rfl id))
      (cc rfl (p_move g0 (od rfl id))
      (cc rfl (p_load Try.underlying39 rfl sz_39 (g1 rfl rfl) (od rfl (fun _ => rfl)))
      (cc rfl (p_call 60 (g1 rfl rfl) (ox (oc _) ox0) (fun _ _ => by kernel_rfl) f60)
      (cc rfl (p_call 54 (g1 rfl rfl) (ox (od rfl id) (ox (od rfl id) ox0)) (fun _ _ => by kernel_rfl) (f54 (by omega) (by omega)))
      (cc rfl (p_and g0 (od rfl id) (od rfl id))
      (cc rfl (p_move g0 (od rfl id))
      (cc rfl (p_load Try.underlying39 rfl sz_39 (g1 rfl rfl) (od rfl (fun _ => rfl)))
      (cc rfl (p_load Try.underlying39 rfl sz_39 (g1 rfl rfl) (od rfl (fun _ => rfl)))
      (cc rfl (p_call 55 (g1 rfl rfl) (ox (od rfl id) (ox (od rfl id) ox0)) (fun _ _ => by kernel_rfl) (f55 (by omega) (by omega)))
      (cc rfl (p_and g0 (od rfl id) (od rfl id))
      (cc rfl (p_assign g0 (od rfl id)) cn))))))))))))))) fun a3 w3 b3 s3 => ?_
  have z3 := z2.trans (b3.mono z2.size)
  exact wp_ret (ret_tmp (fn := Try.f53) s3 0 rfl rfl (fun _ h => h) z3)

theorem f53t : Fn True Try.prog 53 [] (.bool true) := by
  have h := f53
  rw [show (!changeB (withL ⟨2, []⟩ 7 4) ⟨2, []⟩ && readB (withL ⟨2, []⟩ 7 4) ⟨2, []⟩ && changeB (withL ⟨2, []⟩ 7 4) (withL ⟨2, []⟩ 7 4)) = true by kernel_rfl] at h
  exact h
end Go.Proofs.Ytihddficgpjgpaa.X
