/- LabelMakes: joins, meets, raised and rested labels have, category by category, the levels that they should, and no pair too many. -/
import Derived.Test.YtihddficgpjgpaaFops
namespace Go.Proofs.Ytihddficgpjgpaa
open Go.RowKit Go.ChangeShapes Go.WideShapes Go.ChangeAt

theorem makes_law {a b : Lab} (fa : Fine a) : (((((sameB (joinL a b) (joinL a b) && sameB (meetL a b) (meetL a b)) && sameB (raiseL a) (raiseL a)) && sameB (restL a) (restL a)) && sameB (lowerL (raiseL a)) a) && sameB (lowerL (joinL (raiseL a) (raiseL b))) (lowerL (joinL (raiseL a) (raiseL b)))) = true := by
  rw [lower_raise fa.good fa.lv4]
  simp only [sameB_refl]
  rfl

def K21 (a b : Lab) (ov : List (Nat × Bool × Sym)) : Nat → Bool × Sym := fun s => look ov ([
  (true, .seed a),
  (true, .seed b),
  (true, .sbox a),
  (true, .sbox b),
  (true, .any),
  (true, .any),
  (true, .any),
  (true, .any),
  (true, .any),
  (true, .any),
  (true, .bool true),
  (true, .bool (!true)),
  (true, .seed a),
  (true, .lab a),
  (true, .seed b),
  (true, .lab b),
  (true, .lab a),
  (true, .lab b),
  (true, .lab (joinL a b)),
  (true, .lab a),
  (true, .lab b),
  (true, .lab (meetL a b)),
  (true, .lab a),
  (true, .lab (raiseL a)),
  (true, .lab (joinL a b)),
  (true, .lab a),
  (true, .lab b),
  (true, .lab (joinL a b)),
  (true, .bool (sameB (joinL a b) (joinL a b))),
  (true, .bool (sameB (joinL a b) (joinL a b))),
  ((true && (sameB (joinL a b) (joinL a b) == true)), .lab (meetL a b)),
  ((true && (sameB (joinL a b) (joinL a b) == true)), .lab a),
  ((true && (sameB (joinL a b) (joinL a b) == true)), .lab b),
  ((true && (sameB (joinL a b) (joinL a b) == true)), .lab (meetL a b)),
  ((true && (sameB (joinL a b) (joinL a b) == true)), .bool (sameB (meetL a b) (meetL a b))),
  (true, .bool (sameB (joinL a b) (joinL a b) && sameB (meetL a b) (meetL a b))),
  (true, .bool (sameB (joinL a b) (joinL a b) && sameB (meetL a b) (meetL a b))),
  ((true && ((sameB (joinL a b) (joinL a b) && sameB (meetL a b) (meetL a b)) == true)), .lab (raiseL a)),
  ((true && ((sameB (joinL a b) (joinL a b) && sameB (meetL a b) (meetL a b)) == true)), .lab a),
  ((true && ((sameB (joinL a b) (joinL a b) && sameB (meetL a b) (meetL a b)) == true)), .lab (raiseL a)),
  ((true && ((sameB (joinL a b) (joinL a b) && sameB (meetL a b) (meetL a b)) == true)), .bool (sameB (raiseL a) (raiseL a))),
  (true, .bool ((sameB (joinL a b) (joinL a b) && sameB (meetL a b) (meetL a b)) && sameB (raiseL a) (raiseL a))),
  (true, .bool ((sameB (joinL a b) (joinL a b) && sameB (meetL a b) (meetL a b)) && sameB (raiseL a) (raiseL a))),
  ((true && (((sameB (joinL a b) (joinL a b) && sameB (meetL a b) (meetL a b)) && sameB (raiseL a) (raiseL a)) == true)), .lab a),
  ((true && (((sameB (joinL a b) (joinL a b) && sameB (meetL a b) (meetL a b)) && sameB (raiseL a) (raiseL a)) == true)), .lab (restL a)),
  ((true && (((sameB (joinL a b) (joinL a b) && sameB (meetL a b) (meetL a b)) && sameB (raiseL a) (raiseL a)) == true)), .lab a),
  ((true && (((sameB (joinL a b) (joinL a b) && sameB (meetL a b) (meetL a b)) && sameB (raiseL a) (raiseL a)) == true)), .lab (restL a)),
  ((true && (((sameB (joinL a b) (joinL a b) && sameB (meetL a b) (meetL a b)) && sameB (raiseL a) (raiseL a)) == true)), .bool (sameB (restL a) (restL a))),
  (true, .bool (((sameB (joinL a b) (joinL a b) && sameB (meetL a b) (meetL a b)) && sameB (raiseL a) (raiseL a)) && sameB (restL a) (restL a))),
  (true, .bool (((sameB (joinL a b) (joinL a b) && sameB (meetL a b) (meetL a b)) && sameB (raiseL a) (raiseL a)) && sameB (restL a) (restL a))),
  ((true && ((((sameB (joinL a b) (joinL a b) && sameB (meetL a b) (meetL a b)) && sameB (raiseL a) (raiseL a)) && sameB (restL a) (restL a)) == true)), .lab (raiseL a)),
  ((true && ((((sameB (joinL a b) (joinL a b) && sameB (meetL a b) (meetL a b)) && sameB (raiseL a) (raiseL a)) && sameB (restL a) (restL a)) == true)), .lab (lowerL (raiseL a))),
  ((true && ((((sameB (joinL a b) (joinL a b) && sameB (meetL a b) (meetL a b)) && sameB (raiseL a) (raiseL a)) && sameB (restL a) (restL a)) == true)), .lab a),
  ((true && ((((sameB (joinL a b) (joinL a b) && sameB (meetL a b) (meetL a b)) && sameB (raiseL a) (raiseL a)) && sameB (restL a) (restL a)) == true)), .bool (sameB (lowerL (raiseL a)) a)),
  (true, .bool ((((sameB (joinL a b) (joinL a b) && sameB (meetL a b) (meetL a b)) && sameB (raiseL a) (raiseL a)) && sameB (restL a) (restL a)) && sameB (lowerL (raiseL a)) a)),
  (true, .bool ((((sameB (joinL a b) (joinL a b) && sameB (meetL a b) (meetL a b)) && sameB (raiseL a) (raiseL a)) && sameB (restL a) (restL a)) && sameB (lowerL (raiseL a)) a)),
  ((true && (((((sameB (joinL a b) (joinL a b) && sameB (meetL a b) (meetL a b)) && sameB (raiseL a) (raiseL a)) && sameB (restL a) (restL a)) && sameB (lowerL (raiseL a)) a) == true)), .lab (raiseL a)),
  ((true && (((((sameB (joinL a b) (joinL a b) && sameB (meetL a b) (meetL a b)) && sameB (raiseL a) (raiseL a)) && sameB (restL a) (restL a)) && sameB (lowerL (raiseL a)) a) == true)), .lab b),
  ((true && (((((sameB (joinL a b) (joinL a b) && sameB (meetL a b) (meetL a b)) && sameB (raiseL a) (raiseL a)) && sameB (restL a) (restL a)) && sameB (lowerL (raiseL a)) a) == true)), .lab (raiseL b)),
  ((true && (((((sameB (joinL a b) (joinL a b) && sameB (meetL a b) (meetL a b)) && sameB (raiseL a) (raiseL a)) && sameB (restL a) (restL a)) && sameB (lowerL (raiseL a)) a) == true)), .lab (joinL (raiseL a) (raiseL b))),
  ((true && (((((sameB (joinL a b) (joinL a b) && sameB (meetL a b) (meetL a b)) && sameB (raiseL a) (raiseL a)) && sameB (restL a) (restL a)) && sameB (lowerL (raiseL a)) a) == true)), .lab (lowerL (joinL (raiseL a) (raiseL b)))),
  ((true && (((((sameB (joinL a b) (joinL a b) && sameB (meetL a b) (meetL a b)) && sameB (raiseL a) (raiseL a)) && sameB (restL a) (restL a)) && sameB (lowerL (raiseL a)) a) == true)), .lab a),
  ((true && (((((sameB (joinL a b) (joinL a b) && sameB (meetL a b) (meetL a b)) && sameB (raiseL a) (raiseL a)) && sameB (restL a) (restL a)) && sameB (lowerL (raiseL a)) a) == true)), .lab (raiseL a)),
  ((true && (((((sameB (joinL a b) (joinL a b) && sameB (meetL a b) (meetL a b)) && sameB (raiseL a) (raiseL a)) && sameB (restL a) (restL a)) && sameB (lowerL (raiseL a)) a) == true)), .lab b),
  ((true && (((((sameB (joinL a b) (joinL a b) && sameB (meetL a b) (meetL a b)) && sameB (raiseL a) (raiseL a)) && sameB (restL a) (restL a)) && sameB (lowerL (raiseL a)) a) == true)), .lab (raiseL b)),
  ((true && (((((sameB (joinL a b) (joinL a b) && sameB (meetL a b) (meetL a b)) && sameB (raiseL a) (raiseL a)) && sameB (restL a) (restL a)) && sameB (lowerL (raiseL a)) a) == true)), .lab (joinL (raiseL a) (raiseL b))),
  ((true && (((((sameB (joinL a b) (joinL a b) && sameB (meetL a b) (meetL a b)) && sameB (raiseL a) (raiseL a)) && sameB (restL a) (restL a)) && sameB (lowerL (raiseL a)) a) == true)), .lab (lowerL (joinL (raiseL a) (raiseL b)))),
  ((true && (((((sameB (joinL a b) (joinL a b) && sameB (meetL a b) (meetL a b)) && sameB (raiseL a) (raiseL a)) && sameB (restL a) (restL a)) && sameB (lowerL (raiseL a)) a) == true)), .bool (sameB (lowerL (joinL (raiseL a) (raiseL b))) (lowerL (joinL (raiseL a) (raiseL b))))),
  (true, .bool (((((sameB (joinL a b) (joinL a b) && sameB (meetL a b) (meetL a b)) && sameB (raiseL a) (raiseL a)) && sameB (restL a) (restL a)) && sameB (lowerL (raiseL a)) a) && sameB (lowerL (joinL (raiseL a) (raiseL b))) (lowerL (joinL (raiseL a) (raiseL b)))))] : List (Bool × Sym)) s

set_option maxRecDepth 100000 in
theorem labelMakes_walk (v1 v2 : Value) (a b : Lab) (w : World) (h1 : SeedV w w.heap.size v1 a) (h2 : SeedV w w.heap.size v2 b) :
    Calls Try.prog 21 #[v1, v2] w fun e w' => e = .returned (.bool true) ∧ Below w.heap.size w w' := by
  have ga := h1.fine.okl
  have gb := h2.fine.okl
  have hr := makes_law (b := b) h1.fine
  go_enter Try.func21, Try.ntmps21
  refine wp_seq (flow0 ((st_of (K := K21 a b []) (D := [0, 1]) (N := 69) rfl rfl ⟨⟨_, rfl, h1⟩, ⟨_, rfl, h2⟩, True.intro⟩)) (by kernel_rfl) ⟨ok_boxS rfl gd0 (opd rfl id),
      ok_boxS rfl gd0 (opd rfl id),
      ok_assign rfl gd0 (fun _ _ _ _ => True.intro),
      True.intro⟩ fun a1 w1 b1 s1 => ?_)
  have z1 := b1
  refine wp_seq (wp_seq (flow0 (s1.to (K' := K21 a b []) (D' := [2, 3]) (by kernel_rfl) ⟨rfl, rfl, True.intro⟩) (by kernel_rfl) ⟨ok_call0 48 rfl gd0 (fun _ _ => by kernel_rfl) c48,
      ok_not rfl gd0 (opd rfl id),
      True.intro⟩ fun a2 w2 b2 s2 => ?_))
  have z2 := z1.trans (b2.mono z1.size)
  refine s2.cond 11 (by kernel_rfl) rfl (fun e => absurd (e.symm.trans (by rfl)) (by decide)) fun _ => wp_skip ?_
  refine wp_seq (flowS (K21 a b [(5, true, .var 39 [a] 0), (6, true, .var 39 [b] 0)]) 6 [(5, 13, 39, [a]), (6, 15, 39, [b])] (s2.to (K' := K21 a b [(5, true, .fresh 39 1), (6, true, .fresh 39 1)]) (D' := [2, 3]) (by kernel_rfl) ⟨rfl, rfl, True.intro⟩) (by kernel_rfl) (by kernel_rfl)
    ⟨⟨rfl, rfl, rfl, by kernel_rfl⟩, ⟨rfl, rfl, rfl, by kernel_rfl⟩, True.intro⟩ ⟨⟨rfl, rfl, rfl⟩, ⟨rfl, rfl, rfl⟩, True.intro⟩ ⟨rfl, rfl, True.intro⟩
    ⟨ok_loadS rfl gd0 (opd rfl id),
      ok_call1 36 rfl gd0 (opd rfl id) (fun _ _ => by kernel_rfl) c36,
      ok_loadS rfl gd0 (opd rfl id),
      ok_call1 36 rfl gd0 (opd rfl id) (fun _ _ => by kernel_rfl) c36,
      ok_alloc rfl,
      ok_alloc rfl,
      True.intro⟩ fun a3 w3 b3 s3 => ?_)
  have z3 := z2.trans (b3.mono z2.size)
  refine wp_seq (flowS (K21 a b [(5, true, .var 39 [a] 0), (6, true, .var 39 [b] 0), (7, true, .var 39 [joinL a b] 0), (8, true, .var 39 [meetL a b] 0)]) 8 [(7, 18, 39, [joinL a b]), (8, 21, 39, [meetL a b])] (s3.to (K' := K21 a b [(5, true, .var 39 [a] 0), (6, true, .var 39 [b] 0), (7, true, .fresh 39 1), (8, true, .fresh 39 1)]) (D' := [5, 6]) (by kernel_rfl) ⟨rfl, rfl, True.intro⟩) (by kernel_rfl) (by kernel_rfl)
    ⟨⟨rfl, rfl, rfl, by kernel_rfl⟩, ⟨rfl, rfl, rfl, by kernel_rfl⟩, True.intro⟩ ⟨⟨rfl, rfl, rfl⟩, ⟨rfl, rfl, rfl⟩, True.intro⟩ ⟨rfl, rfl, True.intro⟩
    ⟨ok_load rfl gd0 (opd rfl id) rfl,
      ok_load rfl gd0 (opd rfl id) rfl,
      ok_call2 58 rfl gd0 (opd rfl id) (opd rfl id) (fun _ _ => by kernel_rfl) (c58 ga gb (by decide)),
      ok_load rfl gd0 (opd rfl id) rfl,
      ok_load rfl gd0 (opd rfl id) rfl,
      ok_call2 59 rfl gd0 (opd rfl id) (opd rfl id) (fun _ _ => by kernel_rfl) (c59 ga gb (by decide)),
      ok_alloc rfl,
      ok_alloc rfl,
      True.intro⟩ fun a4 w4 b4 s4 => ?_)
  have z4 := z3.trans (b4.mono z3.size)
  refine wp_seq (flowS (K21 a b [(5, true, .var 39 [a] 0), (6, true, .var 39 [b] 0), (7, true, .var 39 [joinL a b] 0), (8, true, .var 39 [meetL a b] 0), (9, true, .var 39 [raiseL a] 0)]) 3 [(9, 23, 39, [raiseL a])] (s4.to (K' := K21 a b [(5, true, .var 39 [a] 0), (6, true, .var 39 [b] 0), (7, true, .var 39 [joinL a b] 0), (8, true, .var 39 [meetL a b] 0), (9, true, .fresh 39 1)]) (D' := [5, 6, 7, 8]) (by kernel_rfl) ⟨rfl, rfl, rfl, rfl, True.intro⟩) (by kernel_rfl) (by kernel_rfl)
    ⟨⟨rfl, rfl, rfl, by kernel_rfl⟩, True.intro⟩ ⟨⟨rfl, rfl, rfl⟩, True.intro⟩ ⟨rfl, rfl, rfl, rfl, True.intro⟩
    ⟨ok_load rfl gd0 (opd rfl id) rfl,
      ok_call1 74 rfl gd0 (opd rfl id) (fun _ _ => by kernel_rfl) (c74 ga (by decide)),
      ok_alloc rfl,
      True.intro⟩ fun a5 w5 b5 s5 => ?_)
  have z5 := z4.trans (b5.mono z4.size)
  refine wp_seq (flow0 (s5.to (K' := K21 a b [(4, true, .bool (((((sameB (joinL a b) (joinL a b) && sameB (meetL a b) (meetL a b)) && sameB (raiseL a) (raiseL a)) && sameB (restL a) (restL a)) && sameB (lowerL (raiseL a)) a) && sameB (lowerL (joinL (raiseL a) (raiseL b))) (lowerL (joinL (raiseL a) (raiseL b))))), (5, true, .var 39 [a] 0), (6, true, .var 39 [b] 0), (7, true, .var 39 [joinL a b] 0), (8, true, .var 39 [meetL a b] 0), (9, true, .var 39 [raiseL a] 0)]) (D' := [5, 6, 7, 8, 9]) (by kernel_rfl) ⟨rfl, rfl, rfl, rfl, rfl, True.intro⟩) (by kernel_rfl) ⟨ok_load rfl gd0 (opd rfl id) rfl,
      ok_load rfl gd0 (opd rfl id) rfl,
      ok_load rfl gd0 (opd rfl id) rfl,
      ok_call3 75 rfl gd0 (opd rfl id) (opd rfl id) (opc _) (fun _ _ => by kernel_rfl) (c75j ga gb (by decide)),
      ok_call2 52 rfl gd0 (opd rfl id) (opd rfl id) (fun _ _ => by kernel_rfl) (c52 (okl_join ga gb) (by decide)),
      ok_move rfl gd0 (opd rfl id),
      ok_load rfl (gd rfl rfl) (opd rfl (fun _ => rfl)) rfl,
      ok_load rfl (gd rfl rfl) (opd rfl (fun _ => rfl)) rfl,
      ok_load rfl (gd rfl rfl) (opd rfl (fun _ => rfl)) rfl,
      ok_call3 75 rfl (gd rfl rfl) (opd rfl id) (opd rfl id) (opc _) (fun _ _ => by kernel_rfl) (c75m ga gb (by decide)),
      ok_call2 52 rfl (gd rfl rfl) (opd rfl id) (opd rfl id) (fun _ _ => by kernel_rfl) (c52 (okl_meet ga gb) (by decide)),
      ok_and rfl gd0 (opd rfl id) (opd rfl id),
      ok_move rfl gd0 (opd rfl id),
      ok_load rfl (gd rfl rfl) (opd rfl (fun _ => rfl)) rfl,
      ok_load rfl (gd rfl rfl) (opd rfl (fun _ => rfl)) rfl,
      ok_call1 76 rfl (gd rfl rfl) (opd rfl id) (fun _ _ => by kernel_rfl) (c76 ga (by decide)),
      ok_call2 52 rfl (gd rfl rfl) (opd rfl id) (opd rfl id) (fun _ _ => by kernel_rfl) (c52 (okl_raise ga) (by decide)),
      ok_and rfl gd0 (opd rfl id) (opd rfl id),
      ok_move rfl gd0 (opd rfl id),
      ok_load rfl (gd rfl rfl) (opd rfl (fun _ => rfl)) rfl,
      ok_call1 63 rfl (gd rfl rfl) (opd rfl id) (fun _ _ => by kernel_rfl) (c63 ga (by decide)),
      ok_load rfl (gd rfl rfl) (opd rfl (fun _ => rfl)) rfl,
      ok_call1 77 rfl (gd rfl rfl) (opd rfl id) (fun _ _ => by kernel_rfl) (c77 ga (by decide)),
      ok_call2 52 rfl (gd rfl rfl) (opd rfl id) (opd rfl id) (fun _ _ => by kernel_rfl) (c52 (okl_rest ga) (by decide)),
      ok_and rfl gd0 (opd rfl id) (opd rfl id),
      ok_move rfl gd0 (opd rfl id),
      ok_load rfl (gd rfl rfl) (opd rfl (fun _ => rfl)) rfl,
      ok_call1 78 rfl (gd rfl rfl) (opd rfl id) (fun _ _ => by kernel_rfl) (c78 (okl_raise ga) (by decide)),
      ok_load rfl (gd rfl rfl) (opd rfl (fun _ => rfl)) rfl,
      ok_call2 52 rfl (gd rfl rfl) (opd rfl id) (opd rfl id) (fun _ _ => by kernel_rfl) (c52 (okl_lower (okl_raise ga)) (by decide)),
      ok_and rfl gd0 (opd rfl id) (opd rfl id),
      ok_move rfl gd0 (opd rfl id),
      ok_load rfl (gd rfl rfl) (opd rfl (fun _ => rfl)) rfl,
      ok_load rfl (gd rfl rfl) (opd rfl (fun _ => rfl)) rfl,
      ok_call1 74 rfl (gd rfl rfl) (opd rfl id) (fun _ _ => by kernel_rfl) (c74 gb (by decide)),
      ok_call2 58 rfl (gd rfl rfl) (opd rfl id) (opd rfl id) (fun _ _ => by kernel_rfl) (c58 (okl_raise ga) (okl_raise gb) (by decide)),
      ok_call1 78 rfl (gd rfl rfl) (opd rfl id) (fun _ _ => by kernel_rfl) (c78 (okl_join (okl_raise ga) (okl_raise gb)) (by decide)),
      ok_load rfl (gd rfl rfl) (opd rfl (fun _ => rfl)) rfl,
      ok_call1 76 rfl (gd rfl rfl) (opd rfl id) (fun _ _ => by kernel_rfl) (c76 ga (by decide)),
      ok_load rfl (gd rfl rfl) (opd rfl (fun _ => rfl)) rfl,
      ok_call1 76 rfl (gd rfl rfl) (opd rfl id) (fun _ _ => by kernel_rfl) (c76 gb (by decide)),
      ok_call3 75 rfl (gd rfl rfl) (opd rfl id) (opd rfl id) (opc _) (fun _ _ => by kernel_rfl) (c75j (okl_raise ga) (okl_raise gb) (by decide)),
      ok_call1 79 rfl (gd rfl rfl) (opd rfl id) (fun _ _ => by kernel_rfl) (c79 (okl_join (okl_raise ga) (okl_raise gb)) (by decide)),
      ok_call2 52 rfl (gd rfl rfl) (opd rfl id) (opd rfl id) (fun _ _ => by kernel_rfl) (c52 (okl_lower (okl_join (okl_raise ga) (okl_raise gb))) (by decide)),
      ok_and rfl gd0 (opd rfl id) (opd rfl id),
      ok_assign rfl gd0 (opd rfl id),
      True.intro⟩ fun a6 w6 b6 s6 => ?_)
  have z6 := z5.trans (b6.mono z5.size)
  exact law_ret s6 4 rfl (by kernel_rfl) rfl hr z6

set_option maxRecDepth 100000 in
theorem labelMakes_lifted (os : Os) (started : os.Started) (H : Type) (enc : TypeId × Value → H) :
    ReturnsInHanded {} Try.checked os 21 .any (Rows.labelMakesSpec.pre6 enc Try.prog Try.f21 Rows.labelMakesRow.domain false) (Rows.labelMakesSpec.post enc Try.prog Try.f21 false true false false) := by
  refine lifted_of (C := Try.checked) laidOut own started (by kernel_rfl) Try.func21 rfl Try.underlying4 (by kernel_rfl) rfl
    (fun ds hds => by match ds, hds with | [_, _], _ => rfl)
    (ChangeSpec.witness6 (enc := enc) (C := Try.checked) false ⟨#[], #[.agg #[.int .i64 0, .slice none 0 0], .agg #[.int .i64 0, .slice none 0 0]], []⟩ 8 (by kernel_rfl) (by kernel_rfl) (by kernel_rfl) (by kernel_rfl)) ?_
  intro W base args ds ps hval0 hA0 hlt
  have hval : ∀ (j : Nat) t v, Try.f21.params[j]? = some t → args[j]? = some v → Value.okWide Try.prog W .any base t v := hval0
  have hA : DataW.TrodAll enc Try.prog W 0 (fun _ => true) true Try.f21.params.toList args.toList ds ps := hA0
  rw [Try.params21] at hA hval
  obtain ⟨v0, vs0, d0, ds0, p0, q0, hargs, rfl, rfl, h0, r0⟩ := trodAll_cons hA
  obtain ⟨v1, vs1, d1, ds1, p1, q1, rfl, rfl, rfl, h1, r1⟩ := trodAll_cons r0
  obtain ⟨rfl, rfl, rfl⟩ := trodAll_nil r1
  obtain rfl : args = #[v0, v1] := by cases args; simp_all
  obtain ⟨l0, s0⟩ := open_seedV (hval 0 36 v0 rfl rfl) h0 (fun x hx => hlt x (List.mem_append_left _ hx))
  obtain ⟨l1, s1⟩ := open_seedV (hval 1 36 v1 rfl rfl) h1 (fun x hx => hlt x (List.mem_append_right _ (List.mem_append_left _ hx)))
  exact labelMakes_walk v0 v1 l0 l1 W s0 s1

set_option maxRecDepth 100000 in
theorem labelMakes_facts : joinedFacts Try.pinned.checked.prog 21 Try.f21 Rows.labelMakesSpec Rows.labelMakesRow = true := by
  show joinedFacts Try.prog 21 Try.f21 Rows.labelMakesSpec Rows.labelMakesRow = true
  unfold joinedFacts
  rw [mayEnter_ok, liftsFinal_ok, make_ok]
  kernel_rfl
theorem labelMakes_holds : Rows.LabelMakesSaid :=
  OpenClaim.holds_of_wide 21 Try.f21 rfl rfl rfl rfl rfl rfl rfl ⟨rfl, rfl, rfl, rfl, rfl⟩ rfl rfl rfl rfl rfl (by kernel_rfl) Try.func21 labelMakes_facts
    (of_decide_eq_true (by kernel_rfl)) (by unfold Func.isWrapper; rw [if_neg (of_decide_eq_false (by kernel_rfl))]; exact ⟨rfl, rfl⟩)
    (fun os started H enc _ => labelMakes_lifted os started H enc)

#print axioms labelMakes_holds
end Go.Proofs.Ytihddficgpjgpaa
