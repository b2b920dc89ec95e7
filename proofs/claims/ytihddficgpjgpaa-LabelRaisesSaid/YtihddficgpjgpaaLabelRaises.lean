/- LabelRaises: raising lets flow what is owned, and nothing less; raised and lowered a label is itself. -/
import Derived.Test.YtihddficgpjgpaaFloop
namespace Go.Proofs.Ytihddficgpjgpaa
open Go.RowKit Go.ChangeShapes Go.WideShapes Go.ChangeAt

theorem lv_raise {a : Lab} (g : Good a) (x : Int) : (raiseL a).lv x = turnF 0 5 (a.lv x) := lv_turn 0 5 g x
theorem lv_rest {a : Lab} (g : Good a) (x : Int) : (restL a).lv x = turnF 0 2 (a.lv x) := lv_turn 0 2 g x
theorem owns_length (a : Lab) : (ownsL a).length ≤ a.ps.length := by
  unfold ownsL
  rw [List.length_map]
  exact List.length_filter_le _ _
theorem raises_law1 {a b : Lab} (fa : Fine a) (fb : Fine b) : (((!leqB a (raiseL a)) || (!sameB (lowerL (raiseL a)) a)) || (leqB a b && (!leqB a (raiseL b)))) = false := by
  have A := fa.good
  have B := fb.good
  have g1 : Good (raiseL a) := good_turn 0 5 A
  have g2 : Good (raiseL b) := good_turn 0 5 B
  have e1 : leqB a (raiseL a) = true := (leqB_iff A g1).2 fun x => by
    rw [lv_raise A]; unfold turnF; split <;> omega
  have e2 : leqB a b = true → leqB a (raiseL b) = true := fun h => (leqB_iff A g2).2 fun x => by
    have := (leqB_iff A B).1 h x
    rw [lv_raise B]; unfold turnF; split <;> omega
  rw [lower_raise A fa.lv4, sameB_refl, e1]
  revert e2
  cases leqB a b <;> cases leqB a (raiseL b) <;> simp
theorem raises_law2 {a : Lab} (fa : Fine a) {cc : Int} (h : cc ∈ ownsL a) : ((((raiseL a).lv cc) != 5) || (((restL a).lv cc) != 2)) = false := by
  have e := (mem_owns fa.good (by have := fa.d1; omega) cc).1 h
  rw [lv_raise fa.good, lv_rest fa.good, e]
  rfl
theorem raises_law {a : Lab} (fa : Fine a) : (((((ownsL (raiseL a)).length : Int) == 0) && (decide (0 < ((ownsL a).length : Int)) || sameB a (raiseL a))) && leqB a (restL a)) = true := by
  have A := fa.good
  have hd : a.d ≠ 0 := by have := fa.d1; omega
  have g1 : Good (raiseL a) := good_turn 0 5 A
  have g3 : Good (restL a) := good_turn 0 2 A
  have e0 : ownsL (raiseL a) = [] := (owns_nil g1 (by show turnF 0 5 a.d ≠ 0; unfold turnF; split <;> omega)).2 fun x => by
    rw [lv_raise A]; unfold turnF; split <;> omega
  have e1 : leqB a (restL a) = true := (leqB_iff A g3).2 fun x => by
    rw [lv_rest A]; unfold turnF; split <;> omega
  rw [e0, e1]
  by_cases hn : ownsL a = []
  · have hx := (owns_nil A hd).1 hn
    have es : sameB a (raiseL a) = true := same_ext' A g1 fun x => by
      rw [lv_raise A]; unfold turnF; rw [if_neg (hx x)]
    rw [es]
    simp
  · have : 0 < (ownsL a).length := by
      rcases hl : ownsL a with _ | ⟨x, l⟩
      · exact absurd hl hn
      · simp
    simp [this]

def K24 (a b : Lab) (i : Nat) (cc : Int) (ov : List (Nat × Bool × Sym)) : Nat → Bool × Sym := fun s => look ov ([
  (true, .seed a),
  (true, .seed b),
  (true, .sbox a),
  (true, .sbox b),
  (true, .any),
  (true, .any),
  (true, .any),
  (true, .any),
  (true, .any),
  (true, .u32 cc),
  (true, .bool true),
  (true, .bool (!true)),
  (true, .seed a),
  (true, .lab a),
  (true, .seed b),
  (true, .lab b),
  (true, .lab a),
  (true, .lab (raiseL a)),
  (true, .lab a),
  (true, .lab (raiseL a)),
  (true, .bool (leqB a (raiseL a))),
  (true, .bool (!leqB a (raiseL a))),
  (true, .bool (!leqB a (raiseL a))),
  ((true && ((!leqB a (raiseL a)) == false)), .lab (raiseL a)),
  ((true && ((!leqB a (raiseL a)) == false)), .lab (lowerL (raiseL a))),
  ((true && ((!leqB a (raiseL a)) == false)), .lab a),
  ((true && ((!leqB a (raiseL a)) == false)), .bool (sameB (lowerL (raiseL a)) a)),
  ((true && ((!leqB a (raiseL a)) == false)), .bool (!sameB (lowerL (raiseL a)) a)),
  (true, .bool ((!leqB a (raiseL a)) || (!sameB (lowerL (raiseL a)) a))),
  (true, .bool ((!leqB a (raiseL a)) || (!sameB (lowerL (raiseL a)) a))),
  ((true && (((!leqB a (raiseL a)) || (!sameB (lowerL (raiseL a)) a)) == false)), .lab a),
  ((true && (((!leqB a (raiseL a)) || (!sameB (lowerL (raiseL a)) a)) == false)), .lab b),
  ((true && (((!leqB a (raiseL a)) || (!sameB (lowerL (raiseL a)) a)) == false)), .bool (leqB a b)),
  ((true && (((!leqB a (raiseL a)) || (!sameB (lowerL (raiseL a)) a)) == false)), .bool (leqB a b)),
  (((true && (((!leqB a (raiseL a)) || (!sameB (lowerL (raiseL a)) a)) == false)) && (leqB a b == true)), .lab a),
  (((true && (((!leqB a (raiseL a)) || (!sameB (lowerL (raiseL a)) a)) == false)) && (leqB a b == true)), .lab b),
  (((true && (((!leqB a (raiseL a)) || (!sameB (lowerL (raiseL a)) a)) == false)) && (leqB a b == true)), .lab (raiseL b)),
  (((true && (((!leqB a (raiseL a)) || (!sameB (lowerL (raiseL a)) a)) == false)) && (leqB a b == true)), .bool (leqB a (raiseL b))),
  (((true && (((!leqB a (raiseL a)) || (!sameB (lowerL (raiseL a)) a)) == false)) && (leqB a b == true)), .bool (!leqB a (raiseL b))),
  ((true && (((!leqB a (raiseL a)) || (!sameB (lowerL (raiseL a)) a)) == false)), .bool (leqB a b && (!leqB a (raiseL b)))),
  (true, .bool (((!leqB a (raiseL a)) || (!sameB (lowerL (raiseL a)) a)) || (leqB a b && (!leqB a (raiseL b))))),
  (true, .lab a),
  (true, .u32s (ownsL a)),
  (true, .int ((ownsL a).length : Int)),
  (true, .int (i : Int)),
  (true, .bool (decide ((i : Int) < ((ownsL a).length : Int)))),
  (true, .u32at cc),
  (true, .u32 cc),
  (true, .lab (raiseL a)),
  (true, .u32 cc),
  (true, .int ((raiseL a).lv cc)),
  (true, .bool (((raiseL a).lv cc) != 5)),
  (true, .bool (((raiseL a).lv cc) != 5)),
  ((true && ((((raiseL a).lv cc) != 5) == false)), .lab a),
  ((true && ((((raiseL a).lv cc) != 5) == false)), .lab (restL a)),
  ((true && ((((raiseL a).lv cc) != 5) == false)), .u32 cc),
  ((true && ((((raiseL a).lv cc) != 5) == false)), .int ((restL a).lv cc)),
  ((true && ((((raiseL a).lv cc) != 5) == false)), .bool (((restL a).lv cc) != 2)),
  (true, .bool ((((raiseL a).lv cc) != 5) || (((restL a).lv cc) != 2))),
  (true, .any),
  (true, .lab (raiseL a)),
  (true, .u32s (ownsL (raiseL a))),
  (true, .int ((ownsL (raiseL a)).length : Int)),
  (true, .bool (((ownsL (raiseL a)).length : Int) == 0)),
  (true, .bool (((ownsL (raiseL a)).length : Int) == 0)),
  ((true && ((((ownsL (raiseL a)).length : Int) == 0) == true)), .lab a),
  ((true && ((((ownsL (raiseL a)).length : Int) == 0) == true)), .u32s (ownsL a)),
  ((true && ((((ownsL (raiseL a)).length : Int) == 0) == true)), .int ((ownsL a).length : Int)),
  ((true && ((((ownsL (raiseL a)).length : Int) == 0) == true)), .bool (decide (0 < ((ownsL a).length : Int)))),
  ((true && ((((ownsL (raiseL a)).length : Int) == 0) == true)), .bool (decide (0 < ((ownsL a).length : Int)))),
  (((true && ((((ownsL (raiseL a)).length : Int) == 0) == true)) && (decide (0 < ((ownsL a).length : Int)) == false)), .lab a),
  (((true && ((((ownsL (raiseL a)).length : Int) == 0) == true)) && (decide (0 < ((ownsL a).length : Int)) == false)), .lab (raiseL a)),
  (((true && ((((ownsL (raiseL a)).length : Int) == 0) == true)) && (decide (0 < ((ownsL a).length : Int)) == false)), .bool (sameB a (raiseL a))),
  ((true && ((((ownsL (raiseL a)).length : Int) == 0) == true)), .bool (decide (0 < ((ownsL a).length : Int)) || sameB a (raiseL a))),
  (true, .bool ((((ownsL (raiseL a)).length : Int) == 0) && (decide (0 < ((ownsL a).length : Int)) || sameB a (raiseL a)))),
  (true, .bool ((((ownsL (raiseL a)).length : Int) == 0) && (decide (0 < ((ownsL a).length : Int)) || sameB a (raiseL a)))),
  ((true && (((((ownsL (raiseL a)).length : Int) == 0) && (decide (0 < ((ownsL a).length : Int)) || sameB a (raiseL a))) == true)), .lab a),
  ((true && (((((ownsL (raiseL a)).length : Int) == 0) && (decide (0 < ((ownsL a).length : Int)) || sameB a (raiseL a))) == true)), .lab a),
  ((true && (((((ownsL (raiseL a)).length : Int) == 0) && (decide (0 < ((ownsL a).length : Int)) || sameB a (raiseL a))) == true)), .lab (restL a)),
  ((true && (((((ownsL (raiseL a)).length : Int) == 0) && (decide (0 < ((ownsL a).length : Int)) || sameB a (raiseL a))) == true)), .bool (leqB a (restL a))),
  (true, .bool (((((ownsL (raiseL a)).length : Int) == 0) && (decide (0 < ((ownsL a).length : Int)) || sameB a (raiseL a))) && leqB a (restL a)))] : List (Bool × Sym)) s

set_option maxRecDepth 100000 in
theorem labelRaises_walk (v1 v2 : Value) (a b : Lab) (w : World) (h1 : SeedV w w.heap.size v1 a) (h2 : SeedV w w.heap.size v2 b) :
    Calls Try.prog 24 #[v1, v2] w fun e w' => e = .returned (.bool true) ∧ Below w.heap.size w w' := by
  have ga := h1.fine.okl
  have gb := h2.fine.okl
  have hr1 := raises_law1 h1.fine h2.fine
  have hr := raises_law h1.fine
  have gL : (ownsL a).length ≤ 12 := Nat.le_trans (owns_length a) ga.len
  go_enter Try.func24, Try.ntmps24
  refine wp_seq (flow0 ((st_of (K := K24 a b 0 0 []) (D := [0, 1]) (N := 81) rfl rfl ⟨⟨_, rfl, h1⟩, ⟨_, rfl, h2⟩, True.intro⟩)) (by kernel_rfl) ⟨ok_boxS rfl gd0 (opd rfl id),
      ok_boxS rfl gd0 (opd rfl id),
      ok_assign rfl gd0 (fun _ _ _ _ => True.intro),
      True.intro⟩ fun a1 w1 b1 s1 => ?_)
  have z1 := b1
  refine wp_seq (wp_seq (flow0 (s1.to (K' := K24 a b 0 0 []) (D' := [2, 3]) (by kernel_rfl) ⟨rfl, rfl, True.intro⟩) (by kernel_rfl) ⟨ok_call0 48 rfl gd0 (fun _ _ => by kernel_rfl) c48,
      ok_not rfl gd0 (opd rfl id),
      True.intro⟩ fun a2 w2 b2 s2 => ?_))
  have z2 := z1.trans (b2.mono z1.size)
  refine s2.cond 11 (by kernel_rfl) rfl (fun e => absurd (e.symm.trans (by rfl)) (by decide)) fun _ => wp_skip ?_
  refine wp_seq (flowS (K24 a b 0 0 [(5, true, .var 39 [a] 0), (6, true, .var 39 [b] 0)]) 6 [(5, 13, 39, [a]), (6, 15, 39, [b])] (s2.to (K' := K24 a b 0 0 [(5, true, .fresh 39 1), (6, true, .fresh 39 1)]) (D' := [2, 3]) (by kernel_rfl) ⟨rfl, rfl, True.intro⟩) (by kernel_rfl) (by kernel_rfl)
    ⟨⟨rfl, rfl, rfl, by kernel_rfl⟩, ⟨rfl, rfl, rfl, by kernel_rfl⟩, True.intro⟩ ⟨⟨rfl, rfl, rfl⟩, ⟨rfl, rfl, rfl⟩, True.intro⟩ ⟨rfl, rfl, True.intro⟩
    ⟨ok_loadS rfl gd0 (opd rfl id),
      ok_call1 36 rfl gd0 (opd rfl id) (fun _ _ => by kernel_rfl) c36,
      ok_loadS rfl gd0 (opd rfl id),
      ok_call1 36 rfl gd0 (opd rfl id) (fun _ _ => by kernel_rfl) c36,
      ok_alloc rfl,
      ok_alloc rfl,
      True.intro⟩ fun a3 w3 b3 s3 => ?_)
  have z3 := z2.trans (b3.mono z2.size)
  refine wp_seq (flowS (K24 a b 0 0 [(5, true, .var 39 [a] 0), (6, true, .var 39 [b] 0), (7, true, .var 39 [raiseL a] 0)]) 3 [(7, 17, 39, [raiseL a])] (s3.to (K' := K24 a b 0 0 [(5, true, .var 39 [a] 0), (6, true, .var 39 [b] 0), (7, true, .fresh 39 1)]) (D' := [5, 6]) (by kernel_rfl) ⟨rfl, rfl, True.intro⟩) (by kernel_rfl) (by kernel_rfl)
    ⟨⟨rfl, rfl, rfl, by kernel_rfl⟩, True.intro⟩ ⟨⟨rfl, rfl, rfl⟩, True.intro⟩ ⟨rfl, rfl, True.intro⟩
    ⟨ok_load rfl gd0 (opd rfl id) rfl,
      ok_call1 74 rfl gd0 (opd rfl id) (fun _ _ => by kernel_rfl) (c74 ga (by decide)),
      ok_alloc rfl,
      True.intro⟩ fun a4 w4 b4 s4 => ?_)
  have z4 := z3.trans (b4.mono z3.size)
  refine wp_seq (wp_seq (flow0 (s4.to (K' := K24 a b 0 0 [(5, true, .var 39 [a] 0), (6, true, .var 39 [b] 0), (7, true, .var 39 [raiseL a] 0)]) (D' := [5, 6, 7]) (by kernel_rfl) ⟨rfl, rfl, rfl, True.intro⟩) (by kernel_rfl) ⟨ok_load rfl gd0 (opd rfl id) rfl,
      ok_load rfl gd0 (opd rfl id) rfl,
      ok_call2 57 rfl gd0 (opd rfl id) (opd rfl id) (fun _ _ => by kernel_rfl) (c57 ga (okl_raise ga) (by decide)),
      ok_not rfl gd0 (opd rfl id),
      ok_move rfl gd0 (opd rfl id),
      ok_load rfl (gd rfl rfl) (opd rfl (fun _ => rfl)) rfl,
      ok_call1 78 rfl (gd rfl rfl) (opd rfl id) (fun _ _ => by kernel_rfl) (c78 (okl_raise ga) (by decide)),
      ok_load rfl (gd rfl rfl) (opd rfl (fun _ => rfl)) rfl,
      ok_call2 52 rfl (gd rfl rfl) (opd rfl id) (opd rfl id) (fun _ _ => by kernel_rfl) (c52 (okl_lower (okl_raise ga)) (by decide)),
      ok_not rfl (gd rfl rfl) (opd rfl id),
      ok_or rfl gd0 (opd rfl id) (opd rfl id),
      ok_move rfl gd0 (opd rfl id),
      ok_load rfl (gd rfl rfl) (opd rfl (fun _ => rfl)) rfl,
      ok_load rfl (gd rfl rfl) (opd rfl (fun _ => rfl)) rfl,
      ok_call2 57 rfl (gd rfl rfl) (opd rfl id) (opd rfl id) (fun _ _ => by kernel_rfl) (c57 ga gb (by decide)),
      ok_move rfl (gd rfl rfl) (opd rfl id),
      ok_load rfl (gd rfl rfl) (opd rfl (fun _ => rfl)) rfl,
      ok_load rfl (gd rfl rfl) (opd rfl (fun _ => rfl)) rfl,
      ok_call1 74 rfl (gd rfl rfl) (opd rfl id) (fun _ _ => by kernel_rfl) (c74 gb (by decide)),
      ok_call2 57 rfl (gd rfl rfl) (opd rfl id) (opd rfl id) (fun _ _ => by kernel_rfl) (c57 ga (okl_raise gb) (by decide)),
      ok_not rfl (gd rfl rfl) (opd rfl id),
      ok_and rfl (gd rfl rfl) (opd rfl id) (opd rfl id),
      ok_or rfl gd0 (opd rfl id) (opd rfl id),
      True.intro⟩ fun a5 w5 b5 s5 => ?_))
  have z5 := z4.trans (b5.mono z4.size)
  refine s5.cond 40 (by kernel_rfl) rfl (fun e => absurd (e.symm.trans hr1) (by decide)) fun _ => wp_skip ?_
  refine wp_seq (wp_seq (flow0 (s5.to (K' := K24 a b 0 0 [(5, true, .var 39 [a] 0), (6, true, .var 39 [b] 0), (7, true, .var 39 [raiseL a] 0)]) (D' := [5, 7]) (by kernel_rfl) ⟨rfl, rfl, True.intro⟩) (by kernel_rfl) ⟨ok_load rfl gd0 (opd rfl id) rfl,
      ok_call1 56 rfl gd0 (opd rfl id) (fun _ _ => by kernel_rfl) (c56 ga (by decide)),
      ok_len rfl gd0 (opd rfl id),
      ok_move rfl gd0 (opc _),
      True.intro⟩ fun a6 w6 b6 s6 => ?_))
  have z6 := z5.trans (b6.mono z5.size)
  refine wp_block (wp_count (ownsL a).length 44 (fun i a' w' => St 81 (K24 a b i 0 [(5, true, .var 39 [a] 0), (6, true, .var 39 [b] 0), (7, true, .var 39 [raiseL a] 0)]) [5, 7, 42, 43, 44] a' w' ∧ Below w.heap.size w w') (fun i a' w' h => h.1.get 44 (by kernel_rfl) rfl) ⟨s6.sub (by kernel_rfl), z6⟩ fun i al wl hi hl => ?_)
  obtain ⟨sl, zl⟩ := hl
  refine wp_seq (flow0 sl (by kernel_rfl) ⟨ok_lssi rfl gd0 (opd rfl id) (opd rfl id),
      True.intro⟩ fun am wm bm sm => ?_)
  have zm := zl.trans (bm.mono zl.size)
  refine wp_seq (sm.cond 45 (by kernel_rfl) rfl (fun e => wp_skip ?_) (fun e => wp_exit ?_))
  · have hlt : i < (ownsL a).length := by simpa using e
    obtain ⟨cc, hcc⟩ : ∃ cc, (ownsL a)[i]? = some cc := ⟨_, List.getElem?_eq_getElem hlt⟩
    have hr2 := raises_law2 h1.fine (List.mem_of_getElem? hcc)
    refine wp_seq (wp_block (wp_seq (flow0 (sm.to (K' := K24 a b i cc [(5, true, .var 39 [a] 0), (6, true, .var 39 [b] 0), (7, true, .var 39 [raiseL a] 0)]) (D' := [5, 7, 42, 43, 44]) (by kernel_rfl) ⟨rfl, rfl, rfl, rfl, rfl, True.intro⟩) (by kernel_rfl) ⟨ok_index rfl gd0 (opd rfl (fun _ => rfl)) (opd rfl (fun _ => rfl)) hcc (by have := gL; omega),
      ok_loadU rfl gd0 (opd rfl id),
      ok_assign rfl gd0 (opd rfl id),
      True.intro⟩ fun an wn bn sn => ?_)))
    have zn := zm.trans (bn.mono zm.size)
    refine wp_seq (flow0 (sn.sub (D' := [5, 7, 9, 42, 43, 44]) (by kernel_rfl)) (by kernel_rfl) ⟨ok_load rfl gd0 (opd rfl id) rfl,
      ok_move rfl gd0 (opd rfl id),
      ok_call2 51 rfl gd0 (opd rfl id) (opd rfl id) (fun _ _ => by kernel_rfl) (c51 (okl_raise ga) (by decide)),
      ok_neqi rfl gd0 (opd rfl id) (opc _),
      ok_move rfl gd0 (opd rfl id),
      ok_load rfl (gd rfl rfl) (opd rfl (fun _ => rfl)) rfl,
      ok_call1 63 rfl (gd rfl rfl) (opd rfl id) (fun _ _ => by kernel_rfl) (c63 ga (by decide)),
      ok_move rfl (gd rfl rfl) (opd rfl (fun _ => rfl)),
      ok_call2 51 rfl (gd rfl rfl) (opd rfl id) (opd rfl id) (fun _ _ => by kernel_rfl) (c51 (okl_rest ga) (by decide)),
      ok_neqi rfl (gd rfl rfl) (opd rfl id) (opc _),
      ok_or rfl gd0 (opd rfl id) (opd rfl id),
      True.intro⟩ fun ao wo bo so => ?_)
    have zo := zn.trans (bo.mono zn.size)
    refine so.cond 58 (by kernel_rfl) rfl (fun e => absurd (e.symm.trans hr2) (by decide)) fun _ => wp_skip ?_
    refine flow_incr (i := i) so (so.get 44 (by kernel_rfl) rfl) (by omega) (by decide) (by decide) [5, 7, 42, 43] (by kernel_rfl) (K24 a b (i + 1) 0 [(5, true, .var 39 [a] 0), (6, true, .var 39 [b] 0), (7, true, .var 39 [raiseL a] 0)]) ⟨rfl, rfl, rfl, rfl, True.intro⟩ fun ap sp hp => ?_
    refine ⟨hlt, ⟨sp.size, sp.defers, fun s hs => ?_⟩, zo⟩
    rcases List.mem_append.1 (show s ∈ [5, 7, 42, 43] ++ [44] from hs) with hs | hs
    · exact sp.known s hs
    · obtain rfl : s = 44 := by simpa using hs
      exact ⟨fun _ => hp, (fun e => by cases e)⟩
  · refine wp_seq (flow0 (sm.to (K' := K24 a b i 0 [(5, true, .var 39 [a] 0), (6, true, .var 39 [b] 0), (7, true, .var 39 [raiseL a] 0), (4, true, .bool (((((ownsL (raiseL a)).length : Int) == 0) && (decide (0 < ((ownsL a).length : Int)) || sameB a (raiseL a))) && leqB a (restL a)))]) (D' := [5, 7]) (by kernel_rfl) ⟨rfl, rfl, True.intro⟩) (by kernel_rfl) ⟨ok_load rfl gd0 (opd rfl id) rfl,
      ok_call1 56 rfl gd0 (opd rfl id) (fun _ _ => by kernel_rfl) (c56 (okl_raise ga) (by decide)),
      ok_len rfl gd0 (opd rfl id),
      ok_eqli rfl gd0 (opd rfl id) (opc _),
      ok_move rfl gd0 (opd rfl id),
      ok_load rfl (gd rfl rfl) (opd rfl (fun _ => rfl)) rfl,
      ok_call1 56 rfl (gd rfl rfl) (opd rfl id) (fun _ _ => by kernel_rfl) (c56 ga (by decide)),
      ok_len rfl (gd rfl rfl) (opd rfl id),
      ok_gtri rfl (gd rfl rfl) (opd rfl id) (opc _),
      ok_move rfl (gd rfl rfl) (opd rfl id),
      ok_load rfl (gd rfl rfl) (opd rfl (fun _ => rfl)) rfl,
      ok_load rfl (gd rfl rfl) (opd rfl (fun _ => rfl)) rfl,
      ok_call2 52 rfl (gd rfl rfl) (opd rfl id) (opd rfl id) (fun _ _ => by kernel_rfl) (c52 ga (by decide)),
      ok_or rfl (gd rfl rfl) (opd rfl id) (opd rfl id),
      ok_and rfl gd0 (opd rfl id) (opd rfl id),
      ok_move rfl gd0 (opd rfl id),
      ok_load rfl (gd rfl rfl) (opd rfl (fun _ => rfl)) rfl,
      ok_load rfl (gd rfl rfl) (opd rfl (fun _ => rfl)) rfl,
      ok_call1 63 rfl (gd rfl rfl) (opd rfl id) (fun _ _ => by kernel_rfl) (c63 ga (by decide)),
      ok_call2 57 rfl (gd rfl rfl) (opd rfl id) (opd rfl id) (fun _ _ => by kernel_rfl) (c57 ga (okl_rest ga) (by decide)),
      ok_and rfl gd0 (opd rfl id) (opd rfl id),
      ok_assign rfl gd0 (opd rfl id),
      True.intro⟩ fun aq wq bq sq => ?_)
    exact law_ret sq 4 rfl (by kernel_rfl) rfl hr (zm.trans (bq.mono zm.size))

set_option maxRecDepth 100000 in
theorem labelRaises_lifted (os : Os) (started : os.Started) (H : Type) (enc : TypeId × Value → H) :
    ReturnsInHanded {} Try.checked os 24 .any (Rows.labelRaisesSpec.pre6 enc Try.prog Try.f24 Rows.labelRaisesRow.domain false) (Rows.labelRaisesSpec.post enc Try.prog Try.f24 false true false false) := by
  refine lifted_of (C := Try.checked) laidOut own started (by kernel_rfl) Try.func24 rfl Try.underlying4 (by kernel_rfl) rfl
    (fun ds hds => by match ds, hds with | [_, _], _ => rfl)
    (ChangeSpec.witness6 (enc := enc) (C := Try.checked) false ⟨#[], #[.agg #[.int .i64 0, .slice none 0 0], .agg #[.int .i64 0, .slice none 0 0]], []⟩ 8 (by kernel_rfl) (by kernel_rfl) (by kernel_rfl) (by kernel_rfl)) ?_
  intro W base args ds ps hval0 hA0 hlt
  have hval : ∀ (j : Nat) t v, Try.f24.params[j]? = some t → args[j]? = some v → Value.okWide Try.prog W .any base t v := hval0
  have hA : DataW.TrodAll enc Try.prog W 0 (fun _ => true) true Try.f24.params.toList args.toList ds ps := hA0
  rw [Try.params24] at hA hval
  obtain ⟨v0, vs0, d0, ds0, p0, q0, hargs, rfl, rfl, h0, r0⟩ := trodAll_cons hA
  obtain ⟨v1, vs1, d1, ds1, p1, q1, rfl, rfl, rfl, h1, r1⟩ := trodAll_cons r0
  obtain ⟨rfl, rfl, rfl⟩ := trodAll_nil r1
  obtain rfl : args = #[v0, v1] := by cases args; simp_all
  obtain ⟨l0, s0⟩ := open_seedV (hval 0 36 v0 rfl rfl) h0 (fun x hx => hlt x (List.mem_append_left _ hx))
  obtain ⟨l1, s1⟩ := open_seedV (hval 1 36 v1 rfl rfl) h1 (fun x hx => hlt x (List.mem_append_right _ (List.mem_append_left _ hx)))
  exact labelRaises_walk v0 v1 l0 l1 W s0 s1

set_option maxRecDepth 100000 in
theorem labelRaises_facts : joinedFacts Try.pinned.checked.prog 24 Try.f24 Rows.labelRaisesSpec Rows.labelRaisesRow = true := by
  show joinedFacts Try.prog 24 Try.f24 Rows.labelRaisesSpec Rows.labelRaisesRow = true
  unfold joinedFacts
  rw [mayEnter_ok, liftsFinal_ok, make_ok]
  kernel_rfl
theorem labelRaises_holds : Rows.LabelRaisesSaid :=
  OpenClaim.holds_of_wide 24 Try.f24 rfl rfl rfl rfl rfl rfl rfl ⟨rfl, rfl, rfl, rfl, rfl⟩ rfl rfl rfl rfl rfl (by kernel_rfl) Try.func24 labelRaises_facts
    (of_decide_eq_true (by kernel_rfl)) (by unfold Func.isWrapper; rw [if_neg (of_decide_eq_false (by kernel_rfl))]; exact ⟨rfl, rfl⟩)
    (fun os started H enc _ => labelRaises_lifted os started H enc)

#print axioms labelRaises_holds
end Go.Proofs.Ytihddficgpjgpaa
