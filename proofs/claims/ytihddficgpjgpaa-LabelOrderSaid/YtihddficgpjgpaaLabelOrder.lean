/- LabelOrder: to flow is an order. -/
import Derived.Test.YtihddficgpjgpaaFcon
namespace Go.Proofs.Ytihddficgpjgpaa
open Go.RowKit Go.ChangeShapes Go.WideShapes Go.ChangeAt

theorem order_law {a b c : Lab} (ga : OKL a 12) (gb : OKL b 12) (gc : OKL c 12) :
    (((leqB a a && (((!leqB a b) || (!leqB b a)) || sameB a b)) && (((!leqB a b) || (!leqB b c)) || leqB a c)) && ((!leqB (joinL a b) c) || (leqB a c && leqB b c))) = true := by
  have e1 := leq_refl ga.good
  have e2 : leqB (joinL a b) c = (leqB a c && leqB b c) := leq_join ga.good gb.good gc.good
  have e3 : leqB a b = true → leqB b a = true → sameB a b = true := fun h1 h2 => by rw [leq_antisymm ga.good gb.good h1 h2]; exact sameB_refl _
  have e4 : leqB a b = true → leqB b c = true → leqB a c = true := leq_trans ga.good gb.good gc.good
  rw [e1, e2]
  revert e3 e4
  cases leqB a b <;> cases leqB b a <;> cases sameB a b <;> cases leqB b c <;> cases leqB a c <;> simp

def K14 (a b c : Lab) (ov : List (Nat × Bool × Sym)) : Nat → Bool × Sym := fun s => look ov ([
  (true, .seed a),
  (true, .seed b),
  (true, .seed c),
  (true, .sbox a),
  (true, .sbox b),
  (true, .sbox c),
  (true, .any),
  (true, .any),
  (true, .any),
  (true, .any),
  (true, .any),
  (true, .bool true),
  (true, .bool (!true)),
  (true, .seed a),
  (true, .lab a),
  (true, .seed b),
  (true, .lab b),
  (true, .seed c),
  (true, .lab c),
  (true, .lab a),
  (true, .lab b),
  (true, .lab (joinL a b)),
  (true, .lab a),
  (true, .lab a),
  (true, .bool (leqB a a)),
  (true, .bool (leqB a a)),
  ((true && (leqB a a == true)), .lab a),
  ((true && (leqB a a == true)), .lab b),
  ((true && (leqB a a == true)), .bool (leqB a b)),
  ((true && (leqB a a == true)), .bool (!leqB a b)),
  ((true && (leqB a a == true)), .bool (!leqB a b)),
  (((true && (leqB a a == true)) && ((!leqB a b) == false)), .lab b),
  (((true && (leqB a a == true)) && ((!leqB a b) == false)), .lab a),
  (((true && (leqB a a == true)) && ((!leqB a b) == false)), .bool (leqB b a)),
  (((true && (leqB a a == true)) && ((!leqB a b) == false)), .bool (!leqB b a)),
  ((true && (leqB a a == true)), .bool ((!leqB a b) || (!leqB b a))),
  ((true && (leqB a a == true)), .bool ((!leqB a b) || (!leqB b a))),
  (((true && (leqB a a == true)) && (((!leqB a b) || (!leqB b a)) == false)), .lab a),
  (((true && (leqB a a == true)) && (((!leqB a b) || (!leqB b a)) == false)), .lab b),
  (((true && (leqB a a == true)) && (((!leqB a b) || (!leqB b a)) == false)), .bool (sameB a b)),
  ((true && (leqB a a == true)), .bool (((!leqB a b) || (!leqB b a)) || sameB a b)),
  (true, .bool (leqB a a && (((!leqB a b) || (!leqB b a)) || sameB a b))),
  (true, .bool (leqB a a && (((!leqB a b) || (!leqB b a)) || sameB a b))),
  ((true && ((leqB a a && (((!leqB a b) || (!leqB b a)) || sameB a b)) == true)), .lab a),
  ((true && ((leqB a a && (((!leqB a b) || (!leqB b a)) || sameB a b)) == true)), .lab b),
  ((true && ((leqB a a && (((!leqB a b) || (!leqB b a)) || sameB a b)) == true)), .bool (leqB a b)),
  ((true && ((leqB a a && (((!leqB a b) || (!leqB b a)) || sameB a b)) == true)), .bool (!leqB a b)),
  ((true && ((leqB a a && (((!leqB a b) || (!leqB b a)) || sameB a b)) == true)), .bool (!leqB a b)),
  (((true && ((leqB a a && (((!leqB a b) || (!leqB b a)) || sameB a b)) == true)) && ((!leqB a b) == false)), .lab b),
  (((true && ((leqB a a && (((!leqB a b) || (!leqB b a)) || sameB a b)) == true)) && ((!leqB a b) == false)), .lab c),
  (((true && ((leqB a a && (((!leqB a b) || (!leqB b a)) || sameB a b)) == true)) && ((!leqB a b) == false)), .bool (leqB b c)),
  (((true && ((leqB a a && (((!leqB a b) || (!leqB b a)) || sameB a b)) == true)) && ((!leqB a b) == false)), .bool (!leqB b c)),
  ((true && ((leqB a a && (((!leqB a b) || (!leqB b a)) || sameB a b)) == true)), .bool ((!leqB a b) || (!leqB b c))),
  ((true && ((leqB a a && (((!leqB a b) || (!leqB b a)) || sameB a b)) == true)), .bool ((!leqB a b) || (!leqB b c))),
  (((true && ((leqB a a && (((!leqB a b) || (!leqB b a)) || sameB a b)) == true)) && (((!leqB a b) || (!leqB b c)) == false)), .lab a),
  (((true && ((leqB a a && (((!leqB a b) || (!leqB b a)) || sameB a b)) == true)) && (((!leqB a b) || (!leqB b c)) == false)), .lab c),
  (((true && ((leqB a a && (((!leqB a b) || (!leqB b a)) || sameB a b)) == true)) && (((!leqB a b) || (!leqB b c)) == false)), .bool (leqB a c)),
  ((true && ((leqB a a && (((!leqB a b) || (!leqB b a)) || sameB a b)) == true)), .bool (((!leqB a b) || (!leqB b c)) || leqB a c)),
  (true, .bool ((leqB a a && (((!leqB a b) || (!leqB b a)) || sameB a b)) && (((!leqB a b) || (!leqB b c)) || leqB a c))),
  (true, .bool ((leqB a a && (((!leqB a b) || (!leqB b a)) || sameB a b)) && (((!leqB a b) || (!leqB b c)) || leqB a c))),
  ((true && (((leqB a a && (((!leqB a b) || (!leqB b a)) || sameB a b)) && (((!leqB a b) || (!leqB b c)) || leqB a c)) == true)), .lab (joinL a b)),
  ((true && (((leqB a a && (((!leqB a b) || (!leqB b a)) || sameB a b)) && (((!leqB a b) || (!leqB b c)) || leqB a c)) == true)), .lab c),
  ((true && (((leqB a a && (((!leqB a b) || (!leqB b a)) || sameB a b)) && (((!leqB a b) || (!leqB b c)) || leqB a c)) == true)), .bool (leqB (joinL a b) c)),
  ((true && (((leqB a a && (((!leqB a b) || (!leqB b a)) || sameB a b)) && (((!leqB a b) || (!leqB b c)) || leqB a c)) == true)), .bool (!leqB (joinL a b) c)),
  ((true && (((leqB a a && (((!leqB a b) || (!leqB b a)) || sameB a b)) && (((!leqB a b) || (!leqB b c)) || leqB a c)) == true)), .bool (!leqB (joinL a b) c)),
  (((true && (((leqB a a && (((!leqB a b) || (!leqB b a)) || sameB a b)) && (((!leqB a b) || (!leqB b c)) || leqB a c)) == true)) && ((!leqB (joinL a b) c) == false)), .lab a),
  (((true && (((leqB a a && (((!leqB a b) || (!leqB b a)) || sameB a b)) && (((!leqB a b) || (!leqB b c)) || leqB a c)) == true)) && ((!leqB (joinL a b) c) == false)), .lab c),
  (((true && (((leqB a a && (((!leqB a b) || (!leqB b a)) || sameB a b)) && (((!leqB a b) || (!leqB b c)) || leqB a c)) == true)) && ((!leqB (joinL a b) c) == false)), .bool (leqB a c)),
  (((true && (((leqB a a && (((!leqB a b) || (!leqB b a)) || sameB a b)) && (((!leqB a b) || (!leqB b c)) || leqB a c)) == true)) && ((!leqB (joinL a b) c) == false)), .bool (leqB a c)),
  ((((true && (((leqB a a && (((!leqB a b) || (!leqB b a)) || sameB a b)) && (((!leqB a b) || (!leqB b c)) || leqB a c)) == true)) && ((!leqB (joinL a b) c) == false)) && (leqB a c == true)), .lab b),
  ((((true && (((leqB a a && (((!leqB a b) || (!leqB b a)) || sameB a b)) && (((!leqB a b) || (!leqB b c)) || leqB a c)) == true)) && ((!leqB (joinL a b) c) == false)) && (leqB a c == true)), .lab c),
  ((((true && (((leqB a a && (((!leqB a b) || (!leqB b a)) || sameB a b)) && (((!leqB a b) || (!leqB b c)) || leqB a c)) == true)) && ((!leqB (joinL a b) c) == false)) && (leqB a c == true)), .bool (leqB b c)),
  (((true && (((leqB a a && (((!leqB a b) || (!leqB b a)) || sameB a b)) && (((!leqB a b) || (!leqB b c)) || leqB a c)) == true)) && ((!leqB (joinL a b) c) == false)), .bool (leqB a c && leqB b c)),
  ((true && (((leqB a a && (((!leqB a b) || (!leqB b a)) || sameB a b)) && (((!leqB a b) || (!leqB b c)) || leqB a c)) == true)), .bool ((!leqB (joinL a b) c) || (leqB a c && leqB b c))),
  (true, .bool (((leqB a a && (((!leqB a b) || (!leqB b a)) || sameB a b)) && (((!leqB a b) || (!leqB b c)) || leqB a c)) && ((!leqB (joinL a b) c) || (leqB a c && leqB b c))))] : List (Bool × Sym)) s

set_option maxRecDepth 100000 in
theorem labelOrder_walk (v1 v2 v3 : Value) (a b c : Lab) (w : World) (h1 : SeedV w w.heap.size v1 a) (h2 : SeedV w w.heap.size v2 b) (h3 : SeedV w w.heap.size v3 c) :
    Calls Try.prog 14 #[v1, v2, v3] w fun e w' => e = .returned (.bool true) ∧ Below w.heap.size w w' := by
  have ga := h1.fine.okl
  have gb := h2.fine.okl
  have gc := h3.fine.okl
  have hr := order_law ga gb gc
  go_enter Try.func14, Try.ntmps14
  refine wp_seq (flow0 (st_of (K := K14 a b c []) (D := [0, 1, 2]) (N := 75) rfl rfl ⟨⟨_, rfl, h1⟩, ⟨_, rfl, h2⟩, ⟨_, rfl, h3⟩, True.intro⟩) (by kernel_rfl) ⟨ok_boxS rfl gd0 (opd rfl id),
      ok_boxS rfl gd0 (opd rfl id),
      ok_boxS rfl gd0 (opd rfl id),
      ok_assign rfl gd0 (fun _ _ _ _ => True.intro),
      True.intro⟩ fun a1 w1 b1 s1 => ?_)
  refine wp_seq (wp_seq (flow0 (s1.sub (D' := [3, 4, 5]) (by kernel_rfl)) (by kernel_rfl) ⟨ok_call0 48 rfl gd0 (fun _ _ => by kernel_rfl) c48,
      ok_not rfl gd0 (opd rfl id),
      True.intro⟩ fun a2 w2 b2 s2 => ?_))
  refine s2.cond 12 (by kernel_rfl) rfl (fun e => by cases e) fun _ => wp_skip ?_
  refine wp_seq (flowS (K := K14 a b c [(7, true, .fresh 39 1), (8, true, .fresh 39 1), (9, true, .fresh 39 1)]) (K14 a b c [(7, true, .var 39 [a] 0), (8, true, .var 39 [b] 0), (9, true, .var 39 [c] 0)]) 9 [(7, 14, 39, [a]), (8, 16, 39, [b]), (9, 18, 39, [c])] (s2.to (D' := [3, 4, 5]) (by kernel_rfl) ⟨rfl, rfl, rfl, True.intro⟩) (by kernel_rfl) (by kernel_rfl)
    ⟨⟨rfl, rfl, rfl, by kernel_rfl⟩, ⟨rfl, rfl, rfl, by kernel_rfl⟩, ⟨rfl, rfl, rfl, by kernel_rfl⟩, True.intro⟩ ⟨⟨rfl, rfl, rfl⟩, ⟨rfl, rfl, rfl⟩, ⟨rfl, rfl, rfl⟩, True.intro⟩ ⟨rfl, rfl, rfl, True.intro⟩
    ⟨ok_loadS rfl gd0 (opd rfl id),
      ok_call1 36 rfl gd0 (opd rfl id) (fun _ _ => by kernel_rfl) c36,
      ok_loadS rfl gd0 (opd rfl id),
      ok_call1 36 rfl gd0 (opd rfl id) (fun _ _ => by kernel_rfl) c36,
      ok_loadS rfl gd0 (opd rfl id),
      ok_call1 36 rfl gd0 (opd rfl id) (fun _ _ => by kernel_rfl) c36,
      ok_alloc rfl,
      ok_alloc rfl,
      ok_alloc rfl,
      True.intro⟩ fun a3 w3 b3 s3 => ?_)
  refine wp_seq (flowS (K := K14 a b c [(7, true, .var 39 [a] 0), (8, true, .var 39 [b] 0), (9, true, .var 39 [c] 0), (10, true, .fresh 39 1)]) (K14 a b c [(7, true, .var 39 [a] 0), (8, true, .var 39 [b] 0), (9, true, .var 39 [c] 0), (10, true, .var 39 [joinL a b] 0)]) 4 [(10, 21, 39, [joinL a b])] (s3.to (D' := [7, 8, 9]) (by kernel_rfl) ⟨rfl, rfl, rfl, True.intro⟩) (by kernel_rfl) (by kernel_rfl)
    ⟨⟨rfl, rfl, rfl, by kernel_rfl⟩, True.intro⟩ ⟨⟨rfl, rfl, rfl⟩, True.intro⟩ ⟨rfl, rfl, rfl, True.intro⟩
    ⟨ok_load rfl gd0 (opd rfl id) rfl,
      ok_load rfl gd0 (opd rfl id) rfl,
      ok_call2 58 rfl gd0 (opd rfl id) (opd rfl id) (fun _ _ => by kernel_rfl) (c58 ga gb (by decide)),
      ok_alloc rfl,
      True.intro⟩ fun a4 w4 b4 s4 => ?_)
  refine wp_seq (flow0 (s4.to (K' := K14 a b c [(7, true, .var 39 [a] 0), (8, true, .var 39 [b] 0), (9, true, .var 39 [c] 0), (10, true, .var 39 [joinL a b] 0), (6, true, .bool ((((leqB a a && (((!leqB a b) || (!leqB b a)) || sameB a b)) && (((!leqB a b) || (!leqB b c)) || leqB a c)) && ((!leqB (joinL a b) c) || (leqB a c && leqB b c)))))]) (D' := [7, 8, 9, 10]) (by kernel_rfl) ⟨rfl, rfl, rfl, rfl, True.intro⟩) (by kernel_rfl) ⟨ok_load rfl gd0 (opd rfl id) rfl,
      ok_load rfl gd0 (opd rfl id) rfl,
      ok_call2 57 rfl gd0 (opd rfl id) (opd rfl id) (fun _ _ => by kernel_rfl) (c57 ga ga (by decide)),
      ok_move rfl gd0 (opd rfl id),
      ok_load rfl (gd rfl rfl) (opd rfl (fun _ => rfl)) rfl,
      ok_load rfl (gd rfl rfl) (opd rfl (fun _ => rfl)) rfl,
      ok_call2 57 rfl (gd rfl rfl) (opd rfl id) (opd rfl id) (fun _ _ => by kernel_rfl) (c57 ga gb (by decide)),
      ok_not rfl (gd rfl rfl) (opd rfl id),
      ok_move rfl (gd rfl rfl) (opd rfl id),
      ok_load rfl (gd rfl rfl) (opd rfl (fun _ => rfl)) rfl,
      ok_load rfl (gd rfl rfl) (opd rfl (fun _ => rfl)) rfl,
      ok_call2 57 rfl (gd rfl rfl) (opd rfl id) (opd rfl id) (fun _ _ => by kernel_rfl) (c57 gb ga (by decide)),
      ok_not rfl (gd rfl rfl) (opd rfl id),
      ok_or rfl (gd rfl rfl) (opd rfl id) (opd rfl id),
      ok_move rfl (gd rfl rfl) (opd rfl id),
      ok_load rfl (gd rfl rfl) (opd rfl (fun _ => rfl)) rfl,
      ok_load rfl (gd rfl rfl) (opd rfl (fun _ => rfl)) rfl,
      ok_call2 52 rfl (gd rfl rfl) (opd rfl id) (opd rfl id) (fun _ _ => by kernel_rfl) (c52 ga (by decide)),
      ok_or rfl (gd rfl rfl) (opd rfl id) (opd rfl id),
      ok_and rfl gd0 (opd rfl id) (opd rfl id),
      ok_move rfl gd0 (opd rfl id),
      ok_load rfl (gd rfl rfl) (opd rfl (fun _ => rfl)) rfl,
      ok_load rfl (gd rfl rfl) (opd rfl (fun _ => rfl)) rfl,
      ok_call2 57 rfl (gd rfl rfl) (opd rfl id) (opd rfl id) (fun _ _ => by kernel_rfl) (c57 ga gb (by decide)),
      ok_not rfl (gd rfl rfl) (opd rfl id),
      ok_move rfl (gd rfl rfl) (opd rfl id),
      ok_load rfl (gd rfl rfl) (opd rfl (fun _ => rfl)) rfl,
      ok_load rfl (gd rfl rfl) (opd rfl (fun _ => rfl)) rfl,
      ok_call2 57 rfl (gd rfl rfl) (opd rfl id) (opd rfl id) (fun _ _ => by kernel_rfl) (c57 gb gc (by decide)),
      ok_not rfl (gd rfl rfl) (opd rfl id),
      ok_or rfl (gd rfl rfl) (opd rfl id) (opd rfl id),
      ok_move rfl (gd rfl rfl) (opd rfl id),
      ok_load rfl (gd rfl rfl) (opd rfl (fun _ => rfl)) rfl,
      ok_load rfl (gd rfl rfl) (opd rfl (fun _ => rfl)) rfl,
      ok_call2 57 rfl (gd rfl rfl) (opd rfl id) (opd rfl id) (fun _ _ => by kernel_rfl) (c57 ga gc (by decide)),
      ok_or rfl (gd rfl rfl) (opd rfl id) (opd rfl id),
      ok_and rfl gd0 (opd rfl id) (opd rfl id),
      ok_move rfl gd0 (opd rfl id),
      ok_load rfl (gd rfl rfl) (opd rfl (fun _ => rfl)) rfl,
      ok_load rfl (gd rfl rfl) (opd rfl (fun _ => rfl)) rfl,
      ok_call2 57 rfl (gd rfl rfl) (opd rfl id) (opd rfl id) (fun _ _ => by kernel_rfl) (c57 (okl_join ga gb) gc (by decide)),
      ok_not rfl (gd rfl rfl) (opd rfl id),
      ok_move rfl (gd rfl rfl) (opd rfl id),
      ok_load rfl (gd rfl rfl) (opd rfl (fun _ => rfl)) rfl,
      ok_load rfl (gd rfl rfl) (opd rfl (fun _ => rfl)) rfl,
      ok_call2 57 rfl (gd rfl rfl) (opd rfl id) (opd rfl id) (fun _ _ => by kernel_rfl) (c57 ga gc (by decide)),
      ok_move rfl (gd rfl rfl) (opd rfl id),
      ok_load rfl (gd rfl rfl) (opd rfl (fun _ => rfl)) rfl,
      ok_load rfl (gd rfl rfl) (opd rfl (fun _ => rfl)) rfl,
      ok_call2 57 rfl (gd rfl rfl) (opd rfl id) (opd rfl id) (fun _ _ => by kernel_rfl) (c57 gb gc (by decide)),
      ok_and rfl (gd rfl rfl) (opd rfl id) (opd rfl id),
      ok_or rfl (gd rfl rfl) (opd rfl id) (opd rfl id),
      ok_and rfl gd0 (opd rfl id) (opd rfl id),
      ok_assign rfl gd0 (opd rfl id),
      True.intro⟩ fun a5 w5 b5 s5 => ?_)
  have z1 := b1.trans (b2.mono b1.size)
  have z2 := z1.trans (b3.mono z1.size)
  have z3 := z2.trans (b4.mono z2.size)
  exact law_ret s5 6 rfl (by kernel_rfl) rfl hr (z3.trans (b5.mono z3.size))

set_option maxRecDepth 100000 in
theorem labelOrder_lifted (os : Os) (started : os.Started) (H : Type) (enc : TypeId × Value → H) :
    ReturnsInHanded {} Try.checked os 14 .any (Rows.labelOrderSpec.pre6 enc Try.prog Try.f14 Rows.labelOrderRow.domain false) (Rows.labelOrderSpec.post enc Try.prog Try.f14 false true false false) := by
  refine lifted_of (C := Try.checked) laidOut own started (by kernel_rfl) Try.func14 rfl Try.underlying4 (by kernel_rfl) rfl
    (fun ds hds => by match ds, hds with | [_, _, _], _ => rfl)
    (ChangeSpec.witness6 (enc := enc) (C := Try.checked) false ⟨#[], #[.agg #[.int .i64 0, .slice none 0 0], .agg #[.int .i64 0, .slice none 0 0], .agg #[.int .i64 0, .slice none 0 0]], []⟩ 8 (by kernel_rfl) (by kernel_rfl) (by kernel_rfl) (by kernel_rfl)) ?_
  intro W base args ds ps hval0 hA0 hlt
  have hval : ∀ (j : Nat) t v, Try.f14.params[j]? = some t → args[j]? = some v → Value.okWide Try.prog W .any base t v := hval0
  have hA : DataW.TrodAll enc Try.prog W 0 (fun _ => true) true Try.f14.params.toList args.toList ds ps := hA0
  rw [Try.params14] at hA hval
  obtain ⟨v0, vs0, d0, ds0, p0, q0, hargs, rfl, rfl, h0, r0⟩ := trodAll_cons hA
  obtain ⟨v1, vs1, d1, ds1, p1, q1, rfl, rfl, rfl, h1, r1⟩ := trodAll_cons r0
  obtain ⟨v2, vs2, d2, ds2, p2, q2, rfl, rfl, rfl, h2, r2⟩ := trodAll_cons r1
  obtain ⟨rfl, rfl, rfl⟩ := trodAll_nil r2
  obtain rfl : args = #[v0, v1, v2] := by cases args; simp_all
  obtain ⟨l0, s0⟩ := open_seedV (hval 0 36 v0 rfl rfl) h0 (fun x hx => hlt x (List.mem_append_left _ hx))
  obtain ⟨l1, s1⟩ := open_seedV (hval 1 36 v1 rfl rfl) h1 (fun x hx => hlt x (List.mem_append_right _ (List.mem_append_left _ hx)))
  obtain ⟨l2, s2⟩ := open_seedV (hval 2 36 v2 rfl rfl) h2 (fun x hx => hlt x (List.mem_append_right _ (List.mem_append_right _ (List.mem_append_left _ hx))))
  exact labelOrder_walk v0 v1 v2 l0 l1 l2 W s0 s1 s2

set_option maxRecDepth 100000 in
theorem labelOrder_facts : joinedFacts Try.pinned.checked.prog 14 Try.f14 Rows.labelOrderSpec Rows.labelOrderRow = true := by
  show joinedFacts Try.prog 14 Try.f14 Rows.labelOrderSpec Rows.labelOrderRow = true
  unfold joinedFacts
  rw [mayEnter_ok, liftsFinal_ok, make_ok]
  kernel_rfl
theorem labelOrder_holds : Rows.LabelOrderSaid :=
  OpenClaim.holds_of_wide 14 Try.f14 rfl rfl rfl rfl rfl rfl rfl ⟨rfl, rfl, rfl, rfl, rfl⟩ rfl rfl rfl rfl rfl (by kernel_rfl) Try.func14 labelOrder_facts
    (of_decide_eq_true (by kernel_rfl)) (by unfold Func.isWrapper; rw [if_neg (of_decide_eq_false (by kernel_rfl))]; exact ⟨rfl, rfl⟩)
    (fun os started H enc _ => labelOrder_lifted os started H enc)

#print axioms labelOrder_holds
end Go.Proofs.Ytihddficgpjgpaa
