/- LabelDual: a join with a meet of the same, and a meet with a join, is what one began with; order plays no part in either. -/
import Derived.Test.YtihddficgpjgpaaFops
namespace Go.Proofs.Ytihddficgpjgpaa
open Go.RowKit Go.ChangeShapes Go.WideShapes Go.ChangeAt

theorem same_ext {a b : Lab} (ga : Good a) (gb : Good b) (h : ∀ x, a.lv x = b.lv x) : sameB a b = true := by
  rw [ext ga gb h]
  exact sameB_refl _
theorem dual_law {a b c : Lab} (ga : OKL a 12) (gb : OKL b 12) (gc : OKL c 12) : (((((sameB (joinL a (meetL a b)) a && sameB (meetL a (joinL a b)) a) && sameB (joinL a b) (joinL b a)) && sameB (meetL a b) (meetL b a)) && sameB (joinL a (joinL b c)) (joinL (joinL a b) c)) && sameB (meetL a (meetL b c)) (meetL (meetL a b) c)) = true := by
  have A := ga.good
  have B := gb.good
  have C := gc.good
  have J : ∀ {x y : Lab}, Good x → Good y → Good (joinL x y) := good_join
  have M : ∀ {x y : Lab}, Good x → Good y → Good (meetL x y) := good_meet
  have e1 : sameB (joinL a (meetL a b)) a = true := same_ext (J A (M A B)) A fun x => by rw [lv_join A (M A B), lv_meet A B]; omega
  have e2 : sameB (meetL a (joinL a b)) a = true := same_ext (M A (J A B)) A fun x => by rw [lv_meet A (J A B), lv_join A B]; omega
  have e3 : sameB (joinL a b) (joinL b a) = true := same_ext (J A B) (J B A) fun x => by rw [lv_join A B, lv_join B A]; omega
  have e4 : sameB (meetL a b) (meetL b a) = true := same_ext (M A B) (M B A) fun x => by rw [lv_meet A B, lv_meet B A]; omega
  have e5 : sameB (joinL a (joinL b c)) (joinL (joinL a b) c) = true := same_ext (J A (J B C)) (J (J A B) C) fun x => by rw [lv_join A (J B C), lv_join B C, lv_join (J A B) C, lv_join A B]; omega
  have e6 : sameB (meetL a (meetL b c)) (meetL (meetL a b) c) = true := same_ext (M A (M B C)) (M (M A B) C) fun x => by rw [lv_meet A (M B C), lv_meet B C, lv_meet (M A B) C, lv_meet A B]; omega
  rw [e1, e2, e3, e4, e5, e6]
  rfl

def K15 (a b c : Lab) (ov : List (Nat × Bool × Sym)) : Nat → Bool × Sym := fun s => look ov ([
  (true, .seed a),
  (true, .seed b),
  (true, .seed c),
  (true, .sbox a),
  (true, .sbox b),
  (true, .sbox c),
  (true, .any),
  (true, .any),
  (true, .any),
  (true, .any),
  (true, .bool true),
  (true, .bool (!true)),
  (true, .seed a),
  (true, .lab a),
  (true, .seed b),
  (true, .lab b),
  (true, .seed c),
  (true, .lab c),
  (true, .lab a),
  (true, .lab a),
  (true, .lab b),
  (true, .lab (meetL a b)),
  (true, .lab (joinL a (meetL a b))),
  (true, .lab a),
  (true, .bool (sameB (joinL a (meetL a b)) a)),
  (true, .bool (sameB (joinL a (meetL a b)) a)),
  ((true && (sameB (joinL a (meetL a b)) a == true)), .lab a),
  ((true && (sameB (joinL a (meetL a b)) a == true)), .lab a),
  ((true && (sameB (joinL a (meetL a b)) a == true)), .lab b),
  ((true && (sameB (joinL a (meetL a b)) a == true)), .lab (joinL a b)),
  ((true && (sameB (joinL a (meetL a b)) a == true)), .lab (meetL a (joinL a b))),
  ((true && (sameB (joinL a (meetL a b)) a == true)), .lab a),
  ((true && (sameB (joinL a (meetL a b)) a == true)), .bool (sameB (meetL a (joinL a b)) a)),
  (true, .bool (sameB (joinL a (meetL a b)) a && sameB (meetL a (joinL a b)) a)),
  (true, .bool (sameB (joinL a (meetL a b)) a && sameB (meetL a (joinL a b)) a)),
  ((true && ((sameB (joinL a (meetL a b)) a && sameB (meetL a (joinL a b)) a) == true)), .lab a),
  ((true && ((sameB (joinL a (meetL a b)) a && sameB (meetL a (joinL a b)) a) == true)), .lab b),
  ((true && ((sameB (joinL a (meetL a b)) a && sameB (meetL a (joinL a b)) a) == true)), .lab (joinL a b)),
  ((true && ((sameB (joinL a (meetL a b)) a && sameB (meetL a (joinL a b)) a) == true)), .lab b),
  ((true && ((sameB (joinL a (meetL a b)) a && sameB (meetL a (joinL a b)) a) == true)), .lab a),
  ((true && ((sameB (joinL a (meetL a b)) a && sameB (meetL a (joinL a b)) a) == true)), .lab (joinL b a)),
  ((true && ((sameB (joinL a (meetL a b)) a && sameB (meetL a (joinL a b)) a) == true)), .bool (sameB (joinL a b) (joinL b a))),
  (true, .bool ((sameB (joinL a (meetL a b)) a && sameB (meetL a (joinL a b)) a) && sameB (joinL a b) (joinL b a))),
  (true, .bool ((sameB (joinL a (meetL a b)) a && sameB (meetL a (joinL a b)) a) && sameB (joinL a b) (joinL b a))),
  ((true && (((sameB (joinL a (meetL a b)) a && sameB (meetL a (joinL a b)) a) && sameB (joinL a b) (joinL b a)) == true)), .lab a),
  ((true && (((sameB (joinL a (meetL a b)) a && sameB (meetL a (joinL a b)) a) && sameB (joinL a b) (joinL b a)) == true)), .lab b),
  ((true && (((sameB (joinL a (meetL a b)) a && sameB (meetL a (joinL a b)) a) && sameB (joinL a b) (joinL b a)) == true)), .lab (meetL a b)),
  ((true && (((sameB (joinL a (meetL a b)) a && sameB (meetL a (joinL a b)) a) && sameB (joinL a b) (joinL b a)) == true)), .lab b),
  ((true && (((sameB (joinL a (meetL a b)) a && sameB (meetL a (joinL a b)) a) && sameB (joinL a b) (joinL b a)) == true)), .lab a),
  ((true && (((sameB (joinL a (meetL a b)) a && sameB (meetL a (joinL a b)) a) && sameB (joinL a b) (joinL b a)) == true)), .lab (meetL b a)),
  ((true && (((sameB (joinL a (meetL a b)) a && sameB (meetL a (joinL a b)) a) && sameB (joinL a b) (joinL b a)) == true)), .bool (sameB (meetL a b) (meetL b a))),
  (true, .bool (((sameB (joinL a (meetL a b)) a && sameB (meetL a (joinL a b)) a) && sameB (joinL a b) (joinL b a)) && sameB (meetL a b) (meetL b a))),
  (true, .bool (((sameB (joinL a (meetL a b)) a && sameB (meetL a (joinL a b)) a) && sameB (joinL a b) (joinL b a)) && sameB (meetL a b) (meetL b a))),
  ((true && ((((sameB (joinL a (meetL a b)) a && sameB (meetL a (joinL a b)) a) && sameB (joinL a b) (joinL b a)) && sameB (meetL a b) (meetL b a)) == true)), .lab a),
  ((true && ((((sameB (joinL a (meetL a b)) a && sameB (meetL a (joinL a b)) a) && sameB (joinL a b) (joinL b a)) && sameB (meetL a b) (meetL b a)) == true)), .lab b),
  ((true && ((((sameB (joinL a (meetL a b)) a && sameB (meetL a (joinL a b)) a) && sameB (joinL a b) (joinL b a)) && sameB (meetL a b) (meetL b a)) == true)), .lab c),
  ((true && ((((sameB (joinL a (meetL a b)) a && sameB (meetL a (joinL a b)) a) && sameB (joinL a b) (joinL b a)) && sameB (meetL a b) (meetL b a)) == true)), .lab (joinL b c)),
  ((true && ((((sameB (joinL a (meetL a b)) a && sameB (meetL a (joinL a b)) a) && sameB (joinL a b) (joinL b a)) && sameB (meetL a b) (meetL b a)) == true)), .lab (joinL a (joinL b c))),
  ((true && ((((sameB (joinL a (meetL a b)) a && sameB (meetL a (joinL a b)) a) && sameB (joinL a b) (joinL b a)) && sameB (meetL a b) (meetL b a)) == true)), .lab a),
  ((true && ((((sameB (joinL a (meetL a b)) a && sameB (meetL a (joinL a b)) a) && sameB (joinL a b) (joinL b a)) && sameB (meetL a b) (meetL b a)) == true)), .lab b),
  ((true && ((((sameB (joinL a (meetL a b)) a && sameB (meetL a (joinL a b)) a) && sameB (joinL a b) (joinL b a)) && sameB (meetL a b) (meetL b a)) == true)), .lab (joinL a b)),
  ((true && ((((sameB (joinL a (meetL a b)) a && sameB (meetL a (joinL a b)) a) && sameB (joinL a b) (joinL b a)) && sameB (meetL a b) (meetL b a)) == true)), .lab c),
  ((true && ((((sameB (joinL a (meetL a b)) a && sameB (meetL a (joinL a b)) a) && sameB (joinL a b) (joinL b a)) && sameB (meetL a b) (meetL b a)) == true)), .lab (joinL (joinL a b) c)),
  ((true && ((((sameB (joinL a (meetL a b)) a && sameB (meetL a (joinL a b)) a) && sameB (joinL a b) (joinL b a)) && sameB (meetL a b) (meetL b a)) == true)), .bool (sameB (joinL a (joinL b c)) (joinL (joinL a b) c))),
  (true, .bool ((((sameB (joinL a (meetL a b)) a && sameB (meetL a (joinL a b)) a) && sameB (joinL a b) (joinL b a)) && sameB (meetL a b) (meetL b a)) && sameB (joinL a (joinL b c)) (joinL (joinL a b) c))),
  (true, .bool ((((sameB (joinL a (meetL a b)) a && sameB (meetL a (joinL a b)) a) && sameB (joinL a b) (joinL b a)) && sameB (meetL a b) (meetL b a)) && sameB (joinL a (joinL b c)) (joinL (joinL a b) c))),
  ((true && (((((sameB (joinL a (meetL a b)) a && sameB (meetL a (joinL a b)) a) && sameB (joinL a b) (joinL b a)) && sameB (meetL a b) (meetL b a)) && sameB (joinL a (joinL b c)) (joinL (joinL a b) c)) == true)), .lab a),
  ((true && (((((sameB (joinL a (meetL a b)) a && sameB (meetL a (joinL a b)) a) && sameB (joinL a b) (joinL b a)) && sameB (meetL a b) (meetL b a)) && sameB (joinL a (joinL b c)) (joinL (joinL a b) c)) == true)), .lab b),
  ((true && (((((sameB (joinL a (meetL a b)) a && sameB (meetL a (joinL a b)) a) && sameB (joinL a b) (joinL b a)) && sameB (meetL a b) (meetL b a)) && sameB (joinL a (joinL b c)) (joinL (joinL a b) c)) == true)), .lab c),
  ((true && (((((sameB (joinL a (meetL a b)) a && sameB (meetL a (joinL a b)) a) && sameB (joinL a b) (joinL b a)) && sameB (meetL a b) (meetL b a)) && sameB (joinL a (joinL b c)) (joinL (joinL a b) c)) == true)), .lab (meetL b c)),
  ((true && (((((sameB (joinL a (meetL a b)) a && sameB (meetL a (joinL a b)) a) && sameB (joinL a b) (joinL b a)) && sameB (meetL a b) (meetL b a)) && sameB (joinL a (joinL b c)) (joinL (joinL a b) c)) == true)), .lab (meetL a (meetL b c))),
  ((true && (((((sameB (joinL a (meetL a b)) a && sameB (meetL a (joinL a b)) a) && sameB (joinL a b) (joinL b a)) && sameB (meetL a b) (meetL b a)) && sameB (joinL a (joinL b c)) (joinL (joinL a b) c)) == true)), .lab a),
  ((true && (((((sameB (joinL a (meetL a b)) a && sameB (meetL a (joinL a b)) a) && sameB (joinL a b) (joinL b a)) && sameB (meetL a b) (meetL b a)) && sameB (joinL a (joinL b c)) (joinL (joinL a b) c)) == true)), .lab b),
  ((true && (((((sameB (joinL a (meetL a b)) a && sameB (meetL a (joinL a b)) a) && sameB (joinL a b) (joinL b a)) && sameB (meetL a b) (meetL b a)) && sameB (joinL a (joinL b c)) (joinL (joinL a b) c)) == true)), .lab (meetL a b)),
  ((true && (((((sameB (joinL a (meetL a b)) a && sameB (meetL a (joinL a b)) a) && sameB (joinL a b) (joinL b a)) && sameB (meetL a b) (meetL b a)) && sameB (joinL a (joinL b c)) (joinL (joinL a b) c)) == true)), .lab c),
  ((true && (((((sameB (joinL a (meetL a b)) a && sameB (meetL a (joinL a b)) a) && sameB (joinL a b) (joinL b a)) && sameB (meetL a b) (meetL b a)) && sameB (joinL a (joinL b c)) (joinL (joinL a b) c)) == true)), .lab (meetL (meetL a b) c)),
  ((true && (((((sameB (joinL a (meetL a b)) a && sameB (meetL a (joinL a b)) a) && sameB (joinL a b) (joinL b a)) && sameB (meetL a b) (meetL b a)) && sameB (joinL a (joinL b c)) (joinL (joinL a b) c)) == true)), .bool (sameB (meetL a (meetL b c)) (meetL (meetL a b) c))),
  (true, .bool (((((sameB (joinL a (meetL a b)) a && sameB (meetL a (joinL a b)) a) && sameB (joinL a b) (joinL b a)) && sameB (meetL a b) (meetL b a)) && sameB (joinL a (joinL b c)) (joinL (joinL a b) c)) && sameB (meetL a (meetL b c)) (meetL (meetL a b) c)))] : List (Bool × Sym)) s

set_option maxRecDepth 100000 in
theorem labelDual_walk (v1 v2 v3 : Value) (a b c : Lab) (w : World) (h1 : SeedV w w.heap.size v1 a) (h2 : SeedV w w.heap.size v2 b) (h3 : SeedV w w.heap.size v3 c) :
    Calls Try.prog 15 #[v1, v2, v3] w fun e w' => e = .returned (.bool true) ∧ Below w.heap.size w w' := by
  have ga := h1.fine.okl
  have gb := h2.fine.okl
  have gc := h3.fine.okl
  have hr := dual_law ga gb gc
  go_enter Try.func15, Try.ntmps15
  refine wp_seq (flow0 ((st_of (K := K15 a b c []) (D := [0, 1, 2]) (N := 78) rfl rfl ⟨⟨_, rfl, h1⟩, ⟨_, rfl, h2⟩, ⟨_, rfl, h3⟩, True.intro⟩)) (by kernel_rfl) ⟨ok_boxS rfl gd0 (opd rfl id),
      ok_boxS rfl gd0 (opd rfl id),
      ok_boxS rfl gd0 (opd rfl id),
      ok_assign rfl gd0 (fun _ _ _ _ => True.intro),
      True.intro⟩ fun a1 w1 b1 s1 => ?_)
  have z1 := b1
  refine wp_seq (wp_seq (flow0 (s1.to (K' := K15 a b c []) (D' := [3, 4, 5]) (by kernel_rfl) ⟨rfl, rfl, rfl, True.intro⟩) (by kernel_rfl) ⟨ok_call0 48 rfl gd0 (fun _ _ => by kernel_rfl) c48,
      ok_not rfl gd0 (opd rfl id),
      True.intro⟩ fun a2 w2 b2 s2 => ?_))
  have z2 := z1.trans (b2.mono z1.size)
  refine s2.cond 11 (by kernel_rfl) rfl (fun e => absurd (e.symm.trans (by rfl)) (by decide)) fun _ => wp_skip ?_
  refine wp_seq (flowS (K15 a b c [(7, true, .var 39 [a] 0), (8, true, .var 39 [b] 0), (9, true, .var 39 [c] 0)]) 9 [(7, 13, 39, [a]), (8, 15, 39, [b]), (9, 17, 39, [c])] (s2.to (K' := K15 a b c [(7, true, .fresh 39 1), (8, true, .fresh 39 1), (9, true, .fresh 39 1)]) (D' := [3, 4, 5]) (by kernel_rfl) ⟨rfl, rfl, rfl, True.intro⟩) (by kernel_rfl) (by kernel_rfl)
    ⟨⟨rfl, rfl, rfl, by kernel_rfl⟩, ⟨rfl, rfl, rfl, by kernel_rfl⟩, ⟨rfl, rfl, rfl, by kernel_rfl⟩, True.intro⟩ ⟨⟨rfl, rfl, rfl⟩, ⟨rfl, rfl, rfl⟩, ⟨rfl, rfl, rfl⟩, True.intro⟩ ⟨rfl, rfl, rfl, True.intro⟩
    ⟨ok_loadS rfl gd0 (opd rfl id),
      ok_call1 36 rfl gd0 (opd rfl id) (fun _ _ => by kernel_rfl) c36,
      ok_loadS rfl gd0 (opd rfl id),
      ok_call1 36 rfl gd0 (opd rfl id) (fun _ _ => by kernel_rfl) c36,
      ok_loadS rfl gd0 (opd rfl id),
      ok_call1 36 rfl gd0 (opd rfl id) (fun _ _ => by kernel_rfl) c36,
      ok_alloc rfl,
      ok_alloc rfl,
      ok_alloc rfl,
      True.intro⟩ fun a3 w3 b3 s3 => ?_)
  have z3 := z2.trans (b3.mono z2.size)
  refine wp_seq (flow0 (s3.to (K' := K15 a b c [(6, true, .bool (((((sameB (joinL a (meetL a b)) a && sameB (meetL a (joinL a b)) a) && sameB (joinL a b) (joinL b a)) && sameB (meetL a b) (meetL b a)) && sameB (joinL a (joinL b c)) (joinL (joinL a b) c)) && sameB (meetL a (meetL b c)) (meetL (meetL a b) c))), (7, true, .var 39 [a] 0), (8, true, .var 39 [b] 0), (9, true, .var 39 [c] 0)]) (D' := [7, 8, 9]) (by kernel_rfl) ⟨rfl, rfl, rfl, True.intro⟩) (by kernel_rfl) ⟨ok_load rfl gd0 (opd rfl id) rfl,
      ok_load rfl gd0 (opd rfl id) rfl,
      ok_load rfl gd0 (opd rfl id) rfl,
      ok_call2 59 rfl gd0 (opd rfl id) (opd rfl id) (fun _ _ => by kernel_rfl) (c59 ga gb (by decide)),
      ok_call2 58 rfl gd0 (opd rfl id) (opd rfl id) (fun _ _ => by kernel_rfl) (c58 ga (okl_meet ga gb) (by decide)),
      ok_load rfl gd0 (opd rfl id) rfl,
      ok_call2 52 rfl gd0 (opd rfl id) (opd rfl id) (fun _ _ => by kernel_rfl) (c52 (okl_join ga (okl_meet ga gb)) (by decide)),
      ok_move rfl gd0 (opd rfl id),
      ok_load rfl (gd rfl rfl) (opd rfl (fun _ => rfl)) rfl,
      ok_load rfl (gd rfl rfl) (opd rfl (fun _ => rfl)) rfl,
      ok_load rfl (gd rfl rfl) (opd rfl (fun _ => rfl)) rfl,
      ok_call2 58 rfl (gd rfl rfl) (opd rfl id) (opd rfl id) (fun _ _ => by kernel_rfl) (c58 ga gb (by decide)),
      ok_call2 59 rfl (gd rfl rfl) (opd rfl id) (opd rfl id) (fun _ _ => by kernel_rfl) (c59 ga (okl_join ga gb) (by decide)),
      ok_load rfl (gd rfl rfl) (opd rfl (fun _ => rfl)) rfl,
      ok_call2 52 rfl (gd rfl rfl) (opd rfl id) (opd rfl id) (fun _ _ => by kernel_rfl) (c52 (okl_meet ga (okl_join ga gb)) (by decide)),
      ok_and rfl gd0 (opd rfl id) (opd rfl id),
      ok_move rfl gd0 (opd rfl id),
      ok_load rfl (gd rfl rfl) (opd rfl (fun _ => rfl)) rfl,
      ok_load rfl (gd rfl rfl) (opd rfl (fun _ => rfl)) rfl,
      ok_call2 58 rfl (gd rfl rfl) (opd rfl id) (opd rfl id) (fun _ _ => by kernel_rfl) (c58 ga gb (by decide)),
      ok_load rfl (gd rfl rfl) (opd rfl (fun _ => rfl)) rfl,
      ok_load rfl (gd rfl rfl) (opd rfl (fun _ => rfl)) rfl,
      ok_call2 58 rfl (gd rfl rfl) (opd rfl id) (opd rfl id) (fun _ _ => by kernel_rfl) (c58 gb ga (by decide)),
      ok_call2 52 rfl (gd rfl rfl) (opd rfl id) (opd rfl id) (fun _ _ => by kernel_rfl) (c52 (okl_join ga gb) (by decide)),
      ok_and rfl gd0 (opd rfl id) (opd rfl id),
      ok_move rfl gd0 (opd rfl id),
      ok_load rfl (gd rfl rfl) (opd rfl (fun _ => rfl)) rfl,
      ok_load rfl (gd rfl rfl) (opd rfl (fun _ => rfl)) rfl,
      ok_call2 59 rfl (gd rfl rfl) (opd rfl id) (opd rfl id) (fun _ _ => by kernel_rfl) (c59 ga gb (by decide)),
      ok_load rfl (gd rfl rfl) (opd rfl (fun _ => rfl)) rfl,
      ok_load rfl (gd rfl rfl) (opd rfl (fun _ => rfl)) rfl,
      ok_call2 59 rfl (gd rfl rfl) (opd rfl id) (opd rfl id) (fun _ _ => by kernel_rfl) (c59 gb ga (by decide)),
      ok_call2 52 rfl (gd rfl rfl) (opd rfl id) (opd rfl id) (fun _ _ => by kernel_rfl) (c52 (okl_meet ga gb) (by decide)),
      ok_and rfl gd0 (opd rfl id) (opd rfl id),
      ok_move rfl gd0 (opd rfl id),
      ok_load rfl (gd rfl rfl) (opd rfl (fun _ => rfl)) rfl,
      ok_load rfl (gd rfl rfl) (opd rfl (fun _ => rfl)) rfl,
      ok_load rfl (gd rfl rfl) (opd rfl (fun _ => rfl)) rfl,
      ok_call2 58 rfl (gd rfl rfl) (opd rfl id) (opd rfl id) (fun _ _ => by kernel_rfl) (c58 gb gc (by decide)),
      ok_call2 58 rfl (gd rfl rfl) (opd rfl id) (opd rfl id) (fun _ _ => by kernel_rfl) (c58 ga (okl_join gb gc) (by decide)),
      ok_load rfl (gd rfl rfl) (opd rfl (fun _ => rfl)) rfl,
      ok_load rfl (gd rfl rfl) (opd rfl (fun _ => rfl)) rfl,
      ok_call2 58 rfl (gd rfl rfl) (opd rfl id) (opd rfl id) (fun _ _ => by kernel_rfl) (c58 ga gb (by decide)),
      ok_load rfl (gd rfl rfl) (opd rfl (fun _ => rfl)) rfl,
      ok_call2 58 rfl (gd rfl rfl) (opd rfl id) (opd rfl id) (fun _ _ => by kernel_rfl) (c58 (okl_join ga gb) gc (by decide)),
      ok_call2 52 rfl (gd rfl rfl) (opd rfl id) (opd rfl id) (fun _ _ => by kernel_rfl) (c52 (okl_join ga (okl_join gb gc)) (by decide)),
      ok_and rfl gd0 (opd rfl id) (opd rfl id),
      ok_move rfl gd0 (opd rfl id),
      ok_load rfl (gd rfl rfl) (opd rfl (fun _ => rfl)) rfl,
      ok_load rfl (gd rfl rfl) (opd rfl (fun _ => rfl)) rfl,
      ok_load rfl (gd rfl rfl) (opd rfl (fun _ => rfl)) rfl,
      ok_call2 59 rfl (gd rfl rfl) (opd rfl id) (opd rfl id) (fun _ _ => by kernel_rfl) (c59 gb gc (by decide)),
      ok_call2 59 rfl (gd rfl rfl) (opd rfl id) (opd rfl id) (fun _ _ => by kernel_rfl) (c59 ga (okl_meet gb gc) (by decide)),
      ok_load rfl (gd rfl rfl) (opd rfl (fun _ => rfl)) rfl,
      ok_load rfl (gd rfl rfl) (opd rfl (fun _ => rfl)) rfl,
      ok_call2 59 rfl (gd rfl rfl) (opd rfl id) (opd rfl id) (fun _ _ => by kernel_rfl) (c59 ga gb (by decide)),
      ok_load rfl (gd rfl rfl) (opd rfl (fun _ => rfl)) rfl,
      ok_call2 59 rfl (gd rfl rfl) (opd rfl id) (opd rfl id) (fun _ _ => by kernel_rfl) (c59 (okl_meet ga gb) gc (by decide)),
      ok_call2 52 rfl (gd rfl rfl) (opd rfl id) (opd rfl id) (fun _ _ => by kernel_rfl) (c52 (okl_meet ga (okl_meet gb gc)) (by decide)),
      ok_and rfl gd0 (opd rfl id) (opd rfl id),
      ok_assign rfl gd0 (opd rfl id),
      True.intro⟩ fun a4 w4 b4 s4 => ?_)
  have z4 := z3.trans (b4.mono z3.size)
  exact law_ret s4 6 rfl (by kernel_rfl) rfl hr z4

set_option maxRecDepth 100000 in
theorem labelDual_lifted (os : Os) (started : os.Started) (H : Type) (enc : TypeId × Value → H) :
    ReturnsInHanded {} Try.checked os 15 .any (Rows.labelDualSpec.pre6 enc Try.prog Try.f15 Rows.labelDualRow.domain false) (Rows.labelDualSpec.post enc Try.prog Try.f15 false true false false) := by
  refine lifted_of (C := Try.checked) laidOut own started (by kernel_rfl) Try.func15 rfl Try.underlying4 (by kernel_rfl) rfl
    (fun ds hds => by match ds, hds with | [_, _, _], _ => rfl)
    (ChangeSpec.witness6 (enc := enc) (C := Try.checked) false ⟨#[], #[.agg #[.int .i64 0, .slice none 0 0], .agg #[.int .i64 0, .slice none 0 0], .agg #[.int .i64 0, .slice none 0 0]], []⟩ 8 (by kernel_rfl) (by kernel_rfl) (by kernel_rfl) (by kernel_rfl)) ?_
  intro W base args ds ps hval0 hA0 hlt
  have hval : ∀ (j : Nat) t v, Try.f15.params[j]? = some t → args[j]? = some v → Value.okWide Try.prog W .any base t v := hval0
  have hA : DataW.TrodAll enc Try.prog W 0 (fun _ => true) true Try.f15.params.toList args.toList ds ps := hA0
  rw [Try.params15] at hA hval
  obtain ⟨v0, vs0, d0, ds0, p0, q0, hargs, rfl, rfl, h0, r0⟩ := trodAll_cons hA
  obtain ⟨v1, vs1, d1, ds1, p1, q1, rfl, rfl, rfl, h1, r1⟩ := trodAll_cons r0
  obtain ⟨v2, vs2, d2, ds2, p2, q2, rfl, rfl, rfl, h2, r2⟩ := trodAll_cons r1
  obtain ⟨rfl, rfl, rfl⟩ := trodAll_nil r2
  obtain rfl : args = #[v0, v1, v2] := by cases args; simp_all
  obtain ⟨l0, s0⟩ := open_seedV (hval 0 36 v0 rfl rfl) h0 (fun x hx => hlt x (List.mem_append_left _ hx))
  obtain ⟨l1, s1⟩ := open_seedV (hval 1 36 v1 rfl rfl) h1 (fun x hx => hlt x (List.mem_append_right _ (List.mem_append_left _ hx)))
  obtain ⟨l2, s2⟩ := open_seedV (hval 2 36 v2 rfl rfl) h2 (fun x hx => hlt x (List.mem_append_right _ (List.mem_append_right _ (List.mem_append_left _ hx))))
  exact labelDual_walk v0 v1 v2 l0 l1 l2 W s0 s1 s2

set_option maxRecDepth 100000 in
theorem labelDual_facts : joinedFacts Try.pinned.checked.prog 15 Try.f15 Rows.labelDualSpec Rows.labelDualRow = true := by
  show joinedFacts Try.prog 15 Try.f15 Rows.labelDualSpec Rows.labelDualRow = true
  unfold joinedFacts
  rw [mayEnter_ok, liftsFinal_ok, make_ok]
  kernel_rfl
theorem labelDual_holds : Rows.LabelDualSaid :=
  OpenClaim.holds_of_wide 15 Try.f15 rfl rfl rfl rfl rfl rfl rfl ⟨rfl, rfl, rfl, rfl, rfl⟩ rfl rfl rfl rfl rfl (by kernel_rfl) Try.func15 labelDual_facts
    (of_decide_eq_true (by kernel_rfl)) (by unfold Func.isWrapper; rw [if_neg (of_decide_eq_false (by kernel_rfl))]; exact ⟨rfl, rfl⟩)
    (fun os started H enc _ => labelDual_lifted os started H enc)

#print axioms labelDual_holds
end Go.Proofs.Ytihddficgpjgpaa
