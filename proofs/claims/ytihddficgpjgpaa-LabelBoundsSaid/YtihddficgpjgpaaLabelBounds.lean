/- LabelBounds: a join is the least label to which both flow, a meet the greatest that flows to both. -/
import Derived.Test.YtihddficgpjgpaaFops
namespace Go.Proofs.Ytihddficgpjgpaa
open Go.RowKit Go.ChangeShapes Go.WideShapes Go.ChangeAt

theorem bounds_law1 {a b : Lab} (ga : OKL a 12) (gb : OKL b 12) : ((((!leqB a (joinL a b)) || (!leqB b (joinL a b))) || (!leqB (meetL a b) a)) || (!leqB (meetL a b) b)) = false := by
  have gj := (okl_join ga gb).good
  have gm := (okl_meet ga gb).good
  have e1 : leqB a (joinL a b) = true := (leqB_iff ga.good gj).2 fun x => by rw [lv_join ga.good gb.good]; omega
  have e2 : leqB b (joinL a b) = true := (leqB_iff gb.good gj).2 fun x => by rw [lv_join ga.good gb.good]; omega
  have e3 : leqB (meetL a b) a = true := (leqB_iff gm ga.good).2 fun x => by rw [lv_meet ga.good gb.good]; omega
  have e4 : leqB (meetL a b) b = true := (leqB_iff gm gb.good).2 fun x => by rw [lv_meet ga.good gb.good]; omega
  rw [e1, e2, e3, e4]
  rfl
theorem bounds_law2 {a b c : Lab} (ga : OKL a 12) (gb : OKL b 12) (gc : OKL c 12) : ((leqB a c && (leqB b c != leqB (joinL a b) c)) || (leqB (joinL a b) c && (!leqB b c))) = false := by
  have e := leq_join ga.good gb.good gc.good
  rw [e]
  cases leqB a c <;> cases leqB b c <;> rfl
theorem bounds_law {a b c : Lab} (ga : OKL a 12) (gb : OKL b 12) (gc : OKL c 12) : ((!leqB c a) || (leqB c b == leqB c (meetL a b))) = true := by
  have e := leq_meet ga.good gb.good gc.good
  rw [e]
  cases leqB c a <;> cases leqB c b <;> rfl

def K13 (a b c : Lab) (ov : List (Nat × Bool × Sym)) : Nat → Bool × Sym := fun s => look ov ([
  (true, .seed a),
  (true, .seed b),
  (true, .seed c),
  (true, .sbox a),
  (true, .sbox b),
  (true, .sbox c),
  (true, .any),
  (true, .any),
  (true, .any),
  (true, .any),
  (true, .any),
  (true, .any),
  (true, .bool true),
  (true, .bool (!true)),
  (true, .seed a),
  (true, .lab a),
  (true, .seed b),
  (true, .lab b),
  (true, .seed c),
  (true, .lab c),
  (true, .lab a),
  (true, .lab b),
  (true, .lab (joinL a b)),
  (true, .lab a),
  (true, .lab b),
  (true, .lab (meetL a b)),
  (true, .lab a),
  (true, .lab (joinL a b)),
  (true, .bool (leqB a (joinL a b))),
  (true, .bool (!leqB a (joinL a b))),
  (true, .bool (!leqB a (joinL a b))),
  ((true && ((!leqB a (joinL a b)) == false)), .lab b),
  ((true && ((!leqB a (joinL a b)) == false)), .lab (joinL a b)),
  ((true && ((!leqB a (joinL a b)) == false)), .bool (leqB b (joinL a b))),
  ((true && ((!leqB a (joinL a b)) == false)), .bool (!leqB b (joinL a b))),
  (true, .bool ((!leqB a (joinL a b)) || (!leqB b (joinL a b)))),
  (true, .bool ((!leqB a (joinL a b)) || (!leqB b (joinL a b)))),
  ((true && (((!leqB a (joinL a b)) || (!leqB b (joinL a b))) == false)), .lab (meetL a b)),
  ((true && (((!leqB a (joinL a b)) || (!leqB b (joinL a b))) == false)), .lab a),
  ((true && (((!leqB a (joinL a b)) || (!leqB b (joinL a b))) == false)), .bool (leqB (meetL a b) a)),
  ((true && (((!leqB a (joinL a b)) || (!leqB b (joinL a b))) == false)), .bool (!leqB (meetL a b) a)),
  (true, .bool (((!leqB a (joinL a b)) || (!leqB b (joinL a b))) || (!leqB (meetL a b) a))),
  (true, .bool (((!leqB a (joinL a b)) || (!leqB b (joinL a b))) || (!leqB (meetL a b) a))),
  ((true && ((((!leqB a (joinL a b)) || (!leqB b (joinL a b))) || (!leqB (meetL a b) a)) == false)), .lab (meetL a b)),
  ((true && ((((!leqB a (joinL a b)) || (!leqB b (joinL a b))) || (!leqB (meetL a b) a)) == false)), .lab b),
  ((true && ((((!leqB a (joinL a b)) || (!leqB b (joinL a b))) || (!leqB (meetL a b) a)) == false)), .bool (leqB (meetL a b) b)),
  ((true && ((((!leqB a (joinL a b)) || (!leqB b (joinL a b))) || (!leqB (meetL a b) a)) == false)), .bool (!leqB (meetL a b) b)),
  (true, .bool ((((!leqB a (joinL a b)) || (!leqB b (joinL a b))) || (!leqB (meetL a b) a)) || (!leqB (meetL a b) b))),
  (true, .lab a),
  (true, .lab c),
  (true, .bool (leqB a c)),
  (true, .bool (leqB a c)),
  ((true && (leqB a c == true)), .lab b),
  ((true && (leqB a c == true)), .lab c),
  ((true && (leqB a c == true)), .bool (leqB b c)),
  ((true && (leqB a c == true)), .lab (joinL a b)),
  ((true && (leqB a c == true)), .lab c),
  ((true && (leqB a c == true)), .bool (leqB (joinL a b) c)),
  ((true && (leqB a c == true)), .bool (leqB b c != leqB (joinL a b) c)),
  (true, .bool (leqB a c && (leqB b c != leqB (joinL a b) c))),
  (true, .bool (leqB a c && (leqB b c != leqB (joinL a b) c))),
  ((true && ((leqB a c && (leqB b c != leqB (joinL a b) c)) == false)), .lab (joinL a b)),
  ((true && ((leqB a c && (leqB b c != leqB (joinL a b) c)) == false)), .lab c),
  ((true && ((leqB a c && (leqB b c != leqB (joinL a b) c)) == false)), .bool (leqB (joinL a b) c)),
  ((true && ((leqB a c && (leqB b c != leqB (joinL a b) c)) == false)), .bool (leqB (joinL a b) c)),
  (((true && ((leqB a c && (leqB b c != leqB (joinL a b) c)) == false)) && (leqB (joinL a b) c == true)), .lab b),
  (((true && ((leqB a c && (leqB b c != leqB (joinL a b) c)) == false)) && (leqB (joinL a b) c == true)), .lab c),
  (((true && ((leqB a c && (leqB b c != leqB (joinL a b) c)) == false)) && (leqB (joinL a b) c == true)), .bool (leqB b c)),
  (((true && ((leqB a c && (leqB b c != leqB (joinL a b) c)) == false)) && (leqB (joinL a b) c == true)), .bool (!leqB b c)),
  ((true && ((leqB a c && (leqB b c != leqB (joinL a b) c)) == false)), .bool (leqB (joinL a b) c && (!leqB b c))),
  (true, .bool ((leqB a c && (leqB b c != leqB (joinL a b) c)) || (leqB (joinL a b) c && (!leqB b c)))),
  (true, .lab c),
  (true, .lab a),
  (true, .bool (leqB c a)),
  (true, .bool (!leqB c a)),
  (true, .bool (!leqB c a)),
  ((true && ((!leqB c a) == false)), .lab c),
  ((true && ((!leqB c a) == false)), .lab b),
  ((true && ((!leqB c a) == false)), .bool (leqB c b)),
  ((true && ((!leqB c a) == false)), .lab c),
  ((true && ((!leqB c a) == false)), .lab (meetL a b)),
  ((true && ((!leqB c a) == false)), .bool (leqB c (meetL a b))),
  ((true && ((!leqB c a) == false)), .bool (leqB c b == leqB c (meetL a b))),
  (true, .bool ((!leqB c a) || (leqB c b == leqB c (meetL a b))))] : List (Bool × Sym)) s

set_option maxRecDepth 100000 in
theorem labelBounds_walk (v1 v2 v3 : Value) (a b c : Lab) (w : World) (h1 : SeedV w w.heap.size v1 a) (h2 : SeedV w w.heap.size v2 b) (h3 : SeedV w w.heap.size v3 c) :
    Calls Try.prog 13 #[v1, v2, v3] w fun e w' => e = .returned (.bool true) ∧ Below w.heap.size w w' := by
  have ga := h1.fine.okl
  have gb := h2.fine.okl
  have gc := h3.fine.okl
  have hr1 := bounds_law1 ga gb
  have hr2 := bounds_law2 ga gb gc
  have hr := bounds_law ga gb gc
  go_enter Try.func13, Try.ntmps13
  refine wp_seq (flow0 ((st_of (K := K13 a b c []) (D := [0, 1, 2]) (N := 84) rfl rfl ⟨⟨_, rfl, h1⟩, ⟨_, rfl, h2⟩, ⟨_, rfl, h3⟩, True.intro⟩)) (by kernel_rfl) ⟨ok_boxS rfl gd0 (opd rfl id),
      ok_boxS rfl gd0 (opd rfl id),
      ok_boxS rfl gd0 (opd rfl id),
      ok_assign rfl gd0 (fun _ _ _ _ => True.intro),
      True.intro⟩ fun a1 w1 b1 s1 => ?_)
  have z1 := b1
  refine wp_seq (wp_seq (flow0 (s1.to (K' := K13 a b c []) (D' := [3, 4, 5]) (by kernel_rfl) ⟨rfl, rfl, rfl, True.intro⟩) (by kernel_rfl) ⟨ok_call0 48 rfl gd0 (fun _ _ => by kernel_rfl) c48,
      ok_not rfl gd0 (opd rfl id),
      True.intro⟩ fun a2 w2 b2 s2 => ?_))
  have z2 := z1.trans (b2.mono z1.size)
  refine s2.cond 13 (by kernel_rfl) rfl (fun e => absurd (e.symm.trans (by rfl)) (by decide)) fun _ => wp_skip ?_
  refine wp_seq (flowS (K13 a b c [(7, true, .var 39 [a] 0), (8, true, .var 39 [b] 0), (9, true, .var 39 [c] 0)]) 9 [(7, 15, 39, [a]), (8, 17, 39, [b]), (9, 19, 39, [c])] (s2.to (K' := K13 a b c [(7, true, .fresh 39 1), (8, true, .fresh 39 1), (9, true, .fresh 39 1)]) (D' := [3, 4, 5]) (by kernel_rfl) ⟨rfl, rfl, rfl, True.intro⟩) (by kernel_rfl) (by kernel_rfl)
    ⟨⟨rfl, rfl, rfl, by kernel_rfl⟩, ⟨rfl, rfl, rfl, by kernel_rfl⟩, ⟨rfl, rfl, rfl, by kernel_rfl⟩, True.intro⟩ ⟨⟨rfl, rfl, rfl⟩, ⟨rfl, rfl, rfl⟩, ⟨rfl, rfl, rfl⟩, True.intro⟩ ⟨rfl, rfl, rfl, True.intro⟩
    ⟨ok_loadS rfl gd0 (opd rfl id),
      ok_call1 36 rfl gd0 (opd rfl id) (fun _ _ => by kernel_rfl) c36,
      ok_loadS rfl gd0 (opd rfl id),
      ok_call1 36 rfl gd0 (opd rfl id) (fun _ _ => by kernel_rfl) c36,
      ok_loadS rfl gd0 (opd rfl id),
      ok_call1 36 rfl gd0 (opd rfl id) (fun _ _ => by kernel_rfl) c36,
      ok_alloc rfl,
      ok_alloc rfl,
      ok_alloc rfl,
      True.intro⟩ fun a3 w3 b3 s3 => ?_)
  have z3 := z2.trans (b3.mono z2.size)
  refine wp_seq (flowS (K13 a b c [(7, true, .var 39 [a] 0), (8, true, .var 39 [b] 0), (9, true, .var 39 [c] 0), (10, true, .var 39 [joinL a b] 0), (11, true, .var 39 [meetL a b] 0)]) 8 [(10, 22, 39, [joinL a b]), (11, 25, 39, [meetL a b])] (s3.to (K' := K13 a b c [(7, true, .var 39 [a] 0), (8, true, .var 39 [b] 0), (9, true, .var 39 [c] 0), (10, true, .fresh 39 1), (11, true, .fresh 39 1)]) (D' := [7, 8, 9]) (by kernel_rfl) ⟨rfl, rfl, rfl, True.intro⟩) (by kernel_rfl) (by kernel_rfl)
    ⟨⟨rfl, rfl, rfl, by kernel_rfl⟩, ⟨rfl, rfl, rfl, by kernel_rfl⟩, True.intro⟩ ⟨⟨rfl, rfl, rfl⟩, ⟨rfl, rfl, rfl⟩, True.intro⟩ ⟨rfl, rfl, rfl, True.intro⟩
    ⟨ok_load rfl gd0 (opd rfl id) rfl,
      ok_load rfl gd0 (opd rfl id) rfl,
      ok_call2 58 rfl gd0 (opd rfl id) (opd rfl id) (fun _ _ => by kernel_rfl) (c58 ga gb (by decide)),
      ok_load rfl gd0 (opd rfl id) rfl,
      ok_load rfl gd0 (opd rfl id) rfl,
      ok_call2 59 rfl gd0 (opd rfl id) (opd rfl id) (fun _ _ => by kernel_rfl) (c59 ga gb (by decide)),
      ok_alloc rfl,
      ok_alloc rfl,
      True.intro⟩ fun a4 w4 b4 s4 => ?_)
  have z4 := z3.trans (b4.mono z3.size)
  refine wp_seq (wp_seq (flow0 (s4.to (K' := K13 a b c [(7, true, .var 39 [a] 0), (8, true, .var 39 [b] 0), (9, true, .var 39 [c] 0), (10, true, .var 39 [joinL a b] 0), (11, true, .var 39 [meetL a b] 0)]) (D' := [7, 8, 9, 10, 11]) (by kernel_rfl) ⟨rfl, rfl, rfl, rfl, rfl, True.intro⟩) (by kernel_rfl) ⟨ok_load rfl gd0 (opd rfl id) rfl,
      ok_load rfl gd0 (opd rfl id) rfl,
      ok_call2 57 rfl gd0 (opd rfl id) (opd rfl id) (fun _ _ => by kernel_rfl) (c57 ga (okl_join ga gb) (by decide)),
      ok_not rfl gd0 (opd rfl id),
      ok_move rfl gd0 (opd rfl id),
      ok_load rfl (gd rfl rfl) (opd rfl (fun _ => rfl)) rfl,
      ok_load rfl (gd rfl rfl) (opd rfl (fun _ => rfl)) rfl,
      ok_call2 57 rfl (gd rfl rfl) (opd rfl id) (opd rfl id) (fun _ _ => by kernel_rfl) (c57 gb (okl_join ga gb) (by decide)),
      ok_not rfl (gd rfl rfl) (opd rfl id),
      ok_or rfl gd0 (opd rfl id) (opd rfl id),
      ok_move rfl gd0 (opd rfl id),
      ok_load rfl (gd rfl rfl) (opd rfl (fun _ => rfl)) rfl,
      ok_load rfl (gd rfl rfl) (opd rfl (fun _ => rfl)) rfl,
      ok_call2 57 rfl (gd rfl rfl) (opd rfl id) (opd rfl id) (fun _ _ => by kernel_rfl) (c57 (okl_meet ga gb) ga (by decide)),
      ok_not rfl (gd rfl rfl) (opd rfl id),
      ok_or rfl gd0 (opd rfl id) (opd rfl id),
      ok_move rfl gd0 (opd rfl id),
      ok_load rfl (gd rfl rfl) (opd rfl (fun _ => rfl)) rfl,
      ok_load rfl (gd rfl rfl) (opd rfl (fun _ => rfl)) rfl,
      ok_call2 57 rfl (gd rfl rfl) (opd rfl id) (opd rfl id) (fun _ _ => by kernel_rfl) (c57 (okl_meet ga gb) gb (by decide)),
      ok_not rfl (gd rfl rfl) (opd rfl id),
      ok_or rfl gd0 (opd rfl id) (opd rfl id),
      True.intro⟩ fun a5 w5 b5 s5 => ?_))
  have z5 := z4.trans (b5.mono z4.size)
  refine s5.cond 47 (by kernel_rfl) rfl (fun e => absurd (e.symm.trans hr1) (by decide)) fun _ => wp_skip ?_
  refine wp_seq (wp_seq (flow0 (s5.to (K' := K13 a b c [(7, true, .var 39 [a] 0), (8, true, .var 39 [b] 0), (9, true, .var 39 [c] 0), (10, true, .var 39 [joinL a b] 0), (11, true, .var 39 [meetL a b] 0)]) (D' := [7, 8, 9, 10, 11]) (by kernel_rfl) ⟨rfl, rfl, rfl, rfl, rfl, True.intro⟩) (by kernel_rfl) ⟨ok_load rfl gd0 (opd rfl id) rfl,
      ok_load rfl gd0 (opd rfl id) rfl,
      ok_call2 57 rfl gd0 (opd rfl id) (opd rfl id) (fun _ _ => by kernel_rfl) (c57 ga gc (by decide)),
      ok_move rfl gd0 (opd rfl id),
      ok_load rfl (gd rfl rfl) (opd rfl (fun _ => rfl)) rfl,
      ok_load rfl (gd rfl rfl) (opd rfl (fun _ => rfl)) rfl,
      ok_call2 57 rfl (gd rfl rfl) (opd rfl id) (opd rfl id) (fun _ _ => by kernel_rfl) (c57 gb gc (by decide)),
      ok_load rfl (gd rfl rfl) (opd rfl (fun _ => rfl)) rfl,
      ok_load rfl (gd rfl rfl) (opd rfl (fun _ => rfl)) rfl,
      ok_call2 57 rfl (gd rfl rfl) (opd rfl id) (opd rfl id) (fun _ _ => by kernel_rfl) (c57 (okl_join ga gb) gc (by decide)),
      ok_neb rfl (gd rfl rfl) (opd rfl id) (opd rfl id),
      ok_and rfl gd0 (opd rfl id) (opd rfl id),
      ok_move rfl gd0 (opd rfl id),
      ok_load rfl (gd rfl rfl) (opd rfl (fun _ => rfl)) rfl,
      ok_load rfl (gd rfl rfl) (opd rfl (fun _ => rfl)) rfl,
      ok_call2 57 rfl (gd rfl rfl) (opd rfl id) (opd rfl id) (fun _ _ => by kernel_rfl) (c57 (okl_join ga gb) gc (by decide)),
      ok_move rfl (gd rfl rfl) (opd rfl id),
      ok_load rfl (gd rfl rfl) (opd rfl (fun _ => rfl)) rfl,
      ok_load rfl (gd rfl rfl) (opd rfl (fun _ => rfl)) rfl,
      ok_call2 57 rfl (gd rfl rfl) (opd rfl id) (opd rfl id) (fun _ _ => by kernel_rfl) (c57 gb gc (by decide)),
      ok_not rfl (gd rfl rfl) (opd rfl id),
      ok_and rfl (gd rfl rfl) (opd rfl id) (opd rfl id),
      ok_or rfl gd0 (opd rfl id) (opd rfl id),
      True.intro⟩ fun a6 w6 b6 s6 => ?_))
  have z6 := z5.trans (b6.mono z5.size)
  refine s6.cond 70 (by kernel_rfl) rfl (fun e => absurd (e.symm.trans hr2) (by decide)) fun _ => wp_skip ?_
  refine wp_seq (flow0 (s6.to (K' := K13 a b c [(6, true, .bool ((!leqB c a) || (leqB c b == leqB c (meetL a b)))), (7, true, .var 39 [a] 0), (8, true, .var 39 [b] 0), (9, true, .var 39 [c] 0), (10, true, .var 39 [joinL a b] 0), (11, true, .var 39 [meetL a b] 0)]) (D' := [7, 8, 9, 11]) (by kernel_rfl) ⟨rfl, rfl, rfl, rfl, True.intro⟩) (by kernel_rfl) ⟨ok_load rfl gd0 (opd rfl id) rfl,
      ok_load rfl gd0 (opd rfl id) rfl,
      ok_call2 57 rfl gd0 (opd rfl id) (opd rfl id) (fun _ _ => by kernel_rfl) (c57 gc ga (by decide)),
      ok_not rfl gd0 (opd rfl id),
      ok_move rfl gd0 (opd rfl id),
      ok_load rfl (gd rfl rfl) (opd rfl (fun _ => rfl)) rfl,
      ok_load rfl (gd rfl rfl) (opd rfl (fun _ => rfl)) rfl,
      ok_call2 57 rfl (gd rfl rfl) (opd rfl id) (opd rfl id) (fun _ _ => by kernel_rfl) (c57 gc gb (by decide)),
      ok_load rfl (gd rfl rfl) (opd rfl (fun _ => rfl)) rfl,
      ok_load rfl (gd rfl rfl) (opd rfl (fun _ => rfl)) rfl,
      ok_call2 57 rfl (gd rfl rfl) (opd rfl id) (opd rfl id) (fun _ _ => by kernel_rfl) (c57 gc (okl_meet ga gb) (by decide)),
      ok_eqb rfl (gd rfl rfl) (opd rfl id) (opd rfl id),
      ok_or rfl gd0 (opd rfl id) (opd rfl id),
      ok_assign rfl gd0 (opd rfl id),
      True.intro⟩ fun a7 w7 b7 s7 => ?_)
  have z7 := z6.trans (b7.mono z6.size)
  exact law_ret s7 6 rfl (by kernel_rfl) rfl hr z7

set_option maxRecDepth 100000 in
theorem labelBounds_lifted (os : Os) (started : os.Started) (H : Type) (enc : TypeId × Value → H) :
    ReturnsInHanded {} Try.checked os 13 .any (Rows.labelBoundsSpec.pre6 enc Try.prog Try.f13 Rows.labelBoundsRow.domain false) (Rows.labelBoundsSpec.post enc Try.prog Try.f13 false true false false) := by
  refine lifted_of (C := Try.checked) laidOut own started (by kernel_rfl) Try.func13 rfl Try.underlying4 (by kernel_rfl) rfl
    (fun ds hds => by match ds, hds with | [_, _, _], _ => rfl)
    (ChangeSpec.witness6 (enc := enc) (C := Try.checked) false ⟨#[], #[.agg #[.int .i64 0, .slice none 0 0], .agg #[.int .i64 0, .slice none 0 0], .agg #[.int .i64 0, .slice none 0 0]], []⟩ 8 (by kernel_rfl) (by kernel_rfl) (by kernel_rfl) (by kernel_rfl)) ?_
  intro W base args ds ps hval0 hA0 hlt
  have hval : ∀ (j : Nat) t v, Try.f13.params[j]? = some t → args[j]? = some v → Value.okWide Try.prog W .any base t v := hval0
  have hA : DataW.TrodAll enc Try.prog W 0 (fun _ => true) true Try.f13.params.toList args.toList ds ps := hA0
  rw [Try.params13] at hA hval
  obtain ⟨v0, vs0, d0, ds0, p0, q0, hargs, rfl, rfl, h0, r0⟩ := trodAll_cons hA
  obtain ⟨v1, vs1, d1, ds1, p1, q1, rfl, rfl, rfl, h1, r1⟩ := trodAll_cons r0
  obtain ⟨v2, vs2, d2, ds2, p2, q2, rfl, rfl, rfl, h2, r2⟩ := trodAll_cons r1
  obtain ⟨rfl, rfl, rfl⟩ := trodAll_nil r2
  obtain rfl : args = #[v0, v1, v2] := by cases args; simp_all
  obtain ⟨l0, s0⟩ := open_seedV (hval 0 36 v0 rfl rfl) h0 (fun x hx => hlt x (List.mem_append_left _ hx))
  obtain ⟨l1, s1⟩ := open_seedV (hval 1 36 v1 rfl rfl) h1 (fun x hx => hlt x (List.mem_append_right _ (List.mem_append_left _ hx)))
  obtain ⟨l2, s2⟩ := open_seedV (hval 2 36 v2 rfl rfl) h2 (fun x hx => hlt x (List.mem_append_right _ (List.mem_append_right _ (List.mem_append_left _ hx))))
  exact labelBounds_walk v0 v1 v2 l0 l1 l2 W s0 s1 s2

set_option maxRecDepth 100000 in
theorem labelBounds_facts : joinedFacts Try.pinned.checked.prog 13 Try.f13 Rows.labelBoundsSpec Rows.labelBoundsRow = true := by
  show joinedFacts Try.prog 13 Try.f13 Rows.labelBoundsSpec Rows.labelBoundsRow = true
  unfold joinedFacts
  rw [mayEnter_ok, liftsFinal_ok, make_ok]
  kernel_rfl
theorem labelBounds_holds : Rows.LabelBoundsSaid :=
  OpenClaim.holds_of_wide 13 Try.f13 rfl rfl rfl rfl rfl rfl rfl ⟨rfl, rfl, rfl, rfl, rfl⟩ rfl rfl rfl rfl rfl (by kernel_rfl) Try.func13 labelBounds_facts
    (of_decide_eq_true (by kernel_rfl)) (by unfold Func.isWrapper; rw [if_neg (of_decide_eq_false (by kernel_rfl))]; exact ⟨rfl, rfl⟩)
    (fun os started H enc _ => labelBounds_lifted os started H enc)

#print axioms labelBounds_holds
end Go.Proofs.Ytihddficgpjgpaa
