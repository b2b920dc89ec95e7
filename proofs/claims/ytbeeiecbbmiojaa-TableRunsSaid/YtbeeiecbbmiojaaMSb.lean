/- MSb: Ysg, Ysh, Ysi, one behind the other. -/
import Derived.Test.YtbeeiecbbmiojaaMSa

/- Ysg: slices.Sort at uint64: the pivot -/
namespace Go.Proofs.Ytbeeiecbbmiojaa.Y
open Go.RowKit Go.ChangeShapes Go.WideShapes Go.ChangeAt Go.ChangeMaps Go.MapKept

open Go.Sort (ltInt swp)
theorem RowD.ne {w : World} {g cap n gs : Nat} {d : Array Int} {T : TypeId} {cs : Array Value} (h : RowD w g cap n d) (hS : Blk w gs T cs) (hT : T ≠ 28) : g ≠ gs := by
  rintro rfl
  obtain ⟨c, h1, _⟩ := h
  have := hS.symm.trans h1
  injection this with this
  injection this with _ h2
  exact hT h2
theorem RowD.only {S : Nat → Prop} {w w' : World} {g cap n : Nat} {d : Array Int} (h : RowD w g cap n d) (ho : OnlyB S w w') (hn : ¬ S g) : RowD w' g cap n d := by
  obtain ⟨cs, h1, h2⟩ := h
  exact ⟨cs, blk_only h1 ho hn, h2⟩
theorem ret_o2 {U : Prop} {P : Program} {N : Nat} {e : Env} {F : Cell → Prop} {a : Act} {w : World} {fn : Func} {R : Value → World → Prop} {v1 v2 : Value} (h : StE U N e F a w) (s1 s2 : Nat) (hr : fn.results = #[.tmp s1, .tmp s2]) (h1 : e.lookup s1 = some (true, .val v1)) (h2 : e.lookup s2 = some (true, .val v2)) (hR : R (.tuple #[v1, v2]) w) : bodyPost P fn (fun e w' => ∃ v, e = .returned v ∧ R v w') .ret a w := by
  have k1 : a.tmps.getD s1 undef = v1 := h.get s1 h1
  have k2 : a.tmps.getD s2 undef = v2 := h.get s2 h2
  refine bodyPost_ret (v := .tuple #[v1, v2]) ?_ h.defers ⟨_, rfl, hR⟩
  rw [← k1, ← k2]
  simp [results, hr]
theorem at_two {w : World} {F : Cell → Prop} {v v1 v2 : Value} (h : v = .tuple #[v1, v2]) : (Sym.two (.val v1) (.val v2)).on w F v := ⟨v1, v2, h, rfl, rfl⟩
section
variable {d : Nat} {t : TypeId} {p : String} {af : Array Edge} {g : Option (Nat × Bool)} {x x2 : Operand}
theorem al_3 : AllocRun Try.prog ⟨some d, .alloc 3, t, p, af, none⟩ 3 #[.int .i64 0] := fun ev w => by go_simp
end
set_option maxRecDepth 100000 in
/-- order2Ordered at uint64. -/
theorem cOrd {w : World} {g cap n : Nat} {d : Array Int} {a b gs : Nat} {s : Int} (hD : RowD w g cap n d) (ha : a < n) (hb : b < n) (hS : Blk w gs 3 #[.int .i64 s]) : Calls Try.prog 97 #[slD g n cap, .int .i64 (a : Int), .int .i64 (b : Int), ptrV gs] w fun e w' => ∃ v, e = .returned v ∧ ∃ (p q : Nat) (s' : Int), v = .tuple #[.int .i64 (p : Int), .int .i64 (q : Int)] ∧ ((p = a ∧ q = b) ∨ (p = b ∧ q = a)) ∧ Blk w' gs 3 #[.int .i64 s'] ∧ OnlyB (fun i => i = gs) w w' := by
  have z0 : OnlyB (fun i => i = gs) w w := OnlyB.refl _ _
  go_enter Try.func97, Try.ntmps97
  have hne := hD.ne hS (by decide)
  refine wp_seq ?_
  refine flowC mixed (st0 (U := False) (N := 28) (e := [(0, true, .val (slD g n cap)), (1, true, .val (.int .i64 (a : Int))), (2, true, .val (.int .i64 (b : Int))), (3, true, .val (ptrV gs))]) (F := noF) rfl rfl (fok_no _ _) ⟨⟨rfl, rfl⟩, ⟨⟨rfl, rfl⟩, ⟨⟨rfl, rfl⟩, ⟨⟨rfl, rfl⟩, True.intro⟩⟩⟩⟩) (by kernel_rfl) (by kernel_rfl) (cc rfl (p_assign g0 (oc _))
      (cc rfl (p_assign g0 (oc _)) cn)) fun a1 w1 b1 s1 => ?_
  have z1 := z0.below b1
  have hD := hD.below b1
  have hS := hS.below b1 hS.lt
  refine wp_seq ?_
  refine wp_seq ?_
  have s1 := s1.more 0 (y := .rowD g n cap d) (at_rowD hD (s1.get 0 rfl))
  refine flowC mixed (s1.keep (sc 0 rfl (sc 1 rfl (sc 2 rfl (sc 3 rfl (sc 8 rfl (sc 9 rfl sn))))))) (by kernel_rfl) (by kernel_rfl) (cc rfl (p_move g0 (od rfl id))
      (cc rfl (p_move g0 (od rfl id))
      (cc rfl (p_idxD (i := b) (fun h => by omega) g0 (od rfl id) (od rfl id))
      (cc rfl (p_ldD g0 (od rfl id))
      (cc rfl (p_move g0 (od rfl id))
      (cc rfl (p_move g0 (od rfl id))
      (cc rfl (p_idxD (i := a) (fun h => by omega) g0 (od rfl id) (od rfl id))
      (cc rfl (p_ldD g0 (od rfl id))
      (cc rfl (p_call 60 g0 (ox (od rfl id) (ox (od rfl id) ox0)) (fun _ _ => by kernel_rfl) f60) cn))))))))) fun a2 w2 b2 s2 => ?_
  have z2 := z1.below b2
  have hD := hD.below b2
  have hS := hS.below b2 hS.lt
  have s2 := s2.more 0 (y := .val (slD g n cap)) (s2.get 0 rfl).1
  refine s2.cond 18 rfl (fun h18 => ?_) (fun h18 => ?_)
  · -- true
    refine wp_seq ?_
    have s2 := s2.more 3 (y := .bp gs 3 #[.int .i64 s] 0) (at_obj hS (s2.get 3 rfl))
    refine wp_region_lit ?_
    refine with_st (s2.keep (sc 1 rfl (sc 2 rfl (sc 3 rfl (sc 8 rfl (sc 9 rfl sn)))))) fun s2 => ?_
    refine chainK 5 (cc rfl (p_move g0 (od rfl id))
        (cc rfl (p_nilB g0 (od rfl id))
        (cc rfl (p_ldB ld_3 rfl g0 (od rfl id))
        (cc rfl (p_bin g0 (od rfl id) (oc _) b_add_3)
        (cc rfl (p_nilB g0 (od rfl id)) cn))))) (by kernel_rfl) s2 fun a3 w3 b3 s3 => ?_
    have z3 := z2.below b3
    have hD := hD.below b3
    have hS := hS.below b3 hS.lt
    show wpList _ _ _ (_ :: _) _ _
    refine cells_on (k := 0) (vs := [.int .i64 (IntKind.i64.wrap (s + 1))]) s3 rfl rfl rfl (s3.get 23 rfl).1 (s3.get 22 rfl) rfl hS (by simp) (by kernel_rfl) (fun u hu => by rw [List.mem_singleton.1 hu]; rfl) (vv 1 rfl (vv 2 rfl (vv 8 rfl (vv 9 rfl vn)))) fun a4 w4 hS gS s4 => ?_
    have hS : Blk _ gs 3 #[.int .i64 (IntKind.i64.wrap (s + 1))] := hS
    have hD := hD.grown gS (fun e => hne (by injection e))
    have z4 := z3.grown gS (fun x _ e => by injection e with e; exact e.symm)
    refine wpList_done ?_
    refine wp_seq ?_
    refine flowT (s4.keep (sc 1 rfl (sc 2 rfl (sc 8 rfl (sc 9 rfl sn))))) (by kernel_rfl) (cc rfl (p_move g0 (od rfl id))
        (cc rfl (p_move g0 (od rfl id))
        (cc rfl (p_assign g0 (od rfl id))
        (cc rfl (p_assign g0 (od rfl id)) cn)))) fun a5 w5 b5 s5 => ?_
    have z5 := z4.below b5
    have hD := hD.below b5
    have hS := hS.below b5 hS.lt
    exact wp_ret (ret_o2 (fn := Try.f97) (R := fun v w' => ∃ (p q : Nat) (s' : Int), v = .tuple #[.int .i64 (p : Int), .int .i64 (q : Int)] ∧ ((p = a ∧ q = b) ∨ (p = b ∧ q = a)) ∧ Blk w' gs 3 #[.int .i64 s'] ∧ OnlyB (fun i => i = gs) w w') s5 8 9 rfl rfl rfl ⟨_, _, _, rfl, by omega, hS, z5⟩)
  · -- false
    refine wp_skip ?_
    refine wp_seq ?_
    refine flowT (s2.keep (sc 1 rfl (sc 2 rfl (sc 8 rfl (sc 9 rfl sn))))) (by kernel_rfl) (cc rfl (p_move g0 (od rfl id))
        (cc rfl (p_move g0 (od rfl id))
        (cc rfl (p_assign g0 (od rfl id))
        (cc rfl (p_assign g0 (od rfl id)) cn)))) fun a6 w6 b6 s6 => ?_
    have z6 := z2.below b6
    have hD := hD.below b6
    have hS := hS.below b6 hS.lt
    exact wp_ret (ret_o2 (fn := Try.f97) (R := fun v w' => ∃ (p q : Nat) (s' : Int), v = .tuple #[.int .i64 (p : Int), .int .i64 (q : Int)] ∧ ((p = a ∧ q = b) ∨ (p = b ∧ q = a)) ∧ Blk w' gs 3 #[.int .i64 s'] ∧ OnlyB (fun i => i = gs) w w') s6 8 9 rfl rfl rfl ⟨_, _, _, rfl, by omega, hS, z6⟩)
set_option maxRecDepth 100000 in
/-- medianOrdered at uint64. -/
theorem cMed {w : World} {g cap n : Nat} {d : Array Int} {a b c gs : Nat} {s : Int} (hD : RowD w g cap n d) (ha : a < n) (hb : b < n) (hc : c < n) (hS : Blk w gs 3 #[.int .i64 s]) : Calls Try.prog 96 #[slD g n cap, .int .i64 (a : Int), .int .i64 (b : Int), .int .i64 (c : Int), ptrV gs] w fun e w' => ∃ v, e = .returned v ∧ ∃ (p : Nat) (s' : Int), v = .int .i64 (p : Int) ∧ (p = a ∨ p = b ∨ p = c) ∧ Blk w' gs 3 #[.int .i64 s'] ∧ OnlyB (fun i => i = gs) w w' := by
  have z0 : OnlyB (fun i => i = gs) w w := OnlyB.refl _ _
  go_enter Try.func96, Try.ntmps96
  have hne := hD.ne hS (by decide)
  refine wp_seq ?_
  refine flowC mixed (st0 (U := False) (N := 36) (e := [(0, true, .val (slD g n cap)), (1, true, .val (.int .i64 (a : Int))), (2, true, .val (.int .i64 (b : Int))), (3, true, .val (.int .i64 (c : Int))), (4, true, .val (ptrV gs))]) (F := noF) rfl rfl (fok_no _ _) ⟨⟨rfl, rfl⟩, ⟨⟨rfl, rfl⟩, ⟨⟨rfl, rfl⟩, ⟨⟨rfl, rfl⟩, ⟨⟨rfl, rfl⟩, True.intro⟩⟩⟩⟩⟩) (by kernel_rfl) (by kernel_rfl) (cc rfl (p_assign g0 (oc _)) cn) fun a1 w1 b1 s1 => ?_
  have z1 := z0.below b1
  have hD := hD.below b1
  have hS := hS.below b1 hS.lt
  refine wp_seq ?_
  refine wp_region_lit ?_
  refine with_st (s1.keep (sc 0 rfl (sc 1 rfl (sc 2 rfl (sc 3 rfl (sc 4 rfl (sc 10 rfl sn))))))) fun s1 => ?_
  refine chainK 4 (cc rfl (p_move g0 (od rfl id))
      (cc rfl (p_move g0 (od rfl id))
      (cc rfl (p_move g0 (od rfl id))
      (cc rfl (p_move g0 (od rfl id)) cn)))) (by kernel_rfl) s1 fun a2 w2 b2 s2 => ?_
  have z2 := z1.below b2
  have hD := hD.below b2
  have hS := hS.below b2 hS.lt
  show wpList _ _ _ (_ :: _) _ _
  refine callR (R := fun v w' => ∃ (p q : Nat) (s' : Int), v = .tuple #[.int .i64 (p : Int), .int .i64 (q : Int)] ∧ ((p = a ∧ q = b) ∨ (p = b ∧ q = a)) ∧ Blk w' gs 3 #[.int .i64 s'] ∧ OnlyB (fun i => i = gs) w2 w') [.tmp 12, .tmp 13, .tmp 14, .tmp 15] [slD g n cap, .int .i64 (a : Int), .int .i64 (b : Int), ptrV gs] s2 (by simp [Region.wanted]) (fun _ _ => by kernel_rfl) rfl (by decide) (ac (s2.get 12 rfl) (ac (s2.get 13 rfl) (ac (s2.get 14 rfl) (ac (s2.get 15 rfl) an0)))) (cOrd hD (by omega) (by omega) hS) (vv 0 rfl (vv 1 rfl (vv 2 rfl (vv 3 rfl (vv 4 rfl vn))))) fun v3 a3 w3 hR3 s3 => ?_
  obtain ⟨p1, q1, sp1, e3, hp1, hS, hz3⟩ := hR3
  have hD := hD.only hz3 hne
  have z3 := z2.trans hz3 (fun _ _ h => h)
  have s3 := s3.more 16 (y := .two (.int .i64 (p1 : Int)) (.int .i64 (q1 : Int))) (at_two ((s3.get 16 rfl).trans e3))
  refine chainK 5 (cc rfl (p_move g0 (od rfl id))
      (cc rfl (p_ext0 g0 (od rfl id))
      (cc rfl (p_ext1 g0 (od rfl id))
      (cc rfl (p_assign g0 (od rfl id))
      (cc rfl (p_assign g0 (od rfl id)) cn))))) (by kernel_rfl) s3 fun a4 w4 b4 s4 => ?_
  have z4 := z3.below b4
  have hD := hD.below b4
  have hS := hS.below b4 hS.lt
  refine wpList_done ?_
  refine wp_seq ?_
  refine wp_region_lit ?_
  refine with_st (s4.keep (sc 0 rfl (sc 1 rfl (sc 2 rfl (sc 3 rfl (sc 4 rfl sn)))))) fun s4 => ?_
  refine chainK 4 (cc rfl (p_move g0 (od rfl id))
      (cc rfl (p_move g0 (od rfl id))
      (cc rfl (p_move g0 (od rfl id))
      (cc rfl (p_move g0 (od rfl id)) cn)))) (by kernel_rfl) s4 fun a5 w5 b5 s5 => ?_
  have z5 := z4.below b5
  have hD := hD.below b5
  have hS := hS.below b5 hS.lt
  show wpList _ _ _ (_ :: _) _ _
  refine callR (R := fun v w' => ∃ (p q : Nat) (s' : Int), v = .tuple #[.int .i64 (p : Int), .int .i64 (q : Int)] ∧ ((p = q1 ∧ q = c) ∨ (p = c ∧ q = q1)) ∧ Blk w' gs 3 #[.int .i64 s'] ∧ OnlyB (fun i => i = gs) w5 w') [.tmp 20, .tmp 21, .tmp 22, .tmp 23] [slD g n cap, .int .i64 (q1 : Int), .int .i64 (c : Int), ptrV gs] s5 (by simp [Region.wanted]) (fun _ _ => by kernel_rfl) rfl (by decide) (ac (s5.get 20 rfl) (ac (s5.get 21 rfl) (ac (s5.get 22 rfl) (ac (s5.get 23 rfl) an0)))) (cOrd hD (by omega) (by omega) hS) (vv 0 rfl (vv 1 rfl (vv 2 rfl (vv 3 rfl (vv 4 rfl vn))))) fun v6 a6 w6 hR6 s6 => ?_
  obtain ⟨p2, q2, sp2, e6, hp2, hS, hz6⟩ := hR6
  have hD := hD.only hz6 hne
  have z6 := z5.trans hz6 (fun _ _ h => h)
  have s6 := s6.more 24 (y := .two (.int .i64 (p2 : Int)) (.int .i64 (q2 : Int))) (at_two ((s6.get 24 rfl).trans e6))
  refine chainK 5 (cc rfl (p_move g0 (od rfl id))
      (cc rfl (p_ext0 g0 (od rfl id))
      (cc rfl (p_ext1 g0 (od rfl id))
      (cc rfl (p_assign g0 (od rfl id))
      (cc rfl (p_assign g0 (od rfl id)) cn))))) (by kernel_rfl) s6 fun a7 w7 b7 s7 => ?_
  have z7 := z6.below b7
  have hD := hD.below b7
  have hS := hS.below b7 hS.lt
  refine wpList_done ?_
  refine wp_seq ?_
  refine wp_region_lit ?_
  refine with_st (s7.keep (sc 0 rfl (sc 1 rfl (sc 2 rfl (sc 4 rfl sn))))) fun s7 => ?_
  refine chainK 4 (cc rfl (p_move g0 (od rfl id))
      (cc rfl (p_move g0 (od rfl id))
      (cc rfl (p_move g0 (od rfl id))
      (cc rfl (p_move g0 (od rfl id)) cn)))) (by kernel_rfl) s7 fun a8 w8 b8 s8 => ?_
  have z8 := z7.below b8
  have hD := hD.below b8
  have hS := hS.below b8 hS.lt
  show wpList _ _ _ (_ :: _) _ _
  refine callR (R := fun v w' => ∃ (p q : Nat) (s' : Int), v = .tuple #[.int .i64 (p : Int), .int .i64 (q : Int)] ∧ ((p = p1 ∧ q = p2) ∨ (p = p2 ∧ q = p1)) ∧ Blk w' gs 3 #[.int .i64 s'] ∧ OnlyB (fun i => i = gs) w8 w') [.tmp 28, .tmp 29, .tmp 30, .tmp 31] [slD g n cap, .int .i64 (p1 : Int), .int .i64 (p2 : Int), ptrV gs] s8 (by simp [Region.wanted]) (fun _ _ => by kernel_rfl) rfl (by decide) (ac (s8.get 28 rfl) (ac (s8.get 29 rfl) (ac (s8.get 30 rfl) (ac (s8.get 31 rfl) an0)))) (cOrd hD (by omega) (by omega) hS) (vv 0 rfl (vv 1 rfl (vv 2 rfl (vv 4 rfl vn)))) fun v9 a9 w9 hR9 s9 => ?_
  obtain ⟨p3, q3, sp3, e9, hp3, hS, hz9⟩ := hR9
  have hD := hD.only hz9 hne
  have z9 := z8.trans hz9 (fun _ _ h => h)
  have s9 := s9.more 32 (y := .two (.int .i64 (p3 : Int)) (.int .i64 (q3 : Int))) (at_two ((s9.get 32 rfl).trans e9))
  refine chainK 5 (cc rfl (p_move g0 (od rfl id))
      (cc rfl (p_ext0 g0 (od rfl id))
      (cc rfl (p_ext1 g0 (od rfl id))
      (cc rfl (p_assign g0 (od rfl id))
      (cc rfl (p_assign g0 (od rfl id)) cn))))) (by kernel_rfl) s9 fun a10 w10 b10 s10 => ?_
  have z10 := z9.below b10
  have hD := hD.below b10
  have hS := hS.below b10 hS.lt
  refine wpList_done ?_
  refine wp_seq ?_
  refine flowC mixed (s10.keep (sc 2 rfl sn)) (by kernel_rfl) (by kernel_rfl) (cc rfl (p_move g0 (od rfl id))
      (cc rfl (p_assign g0 (od rfl id)) cn)) fun a11 w11 b11 s11 => ?_
  have z11 := z10.below b11
  have hD := hD.below b11
  have hS := hS.below b11 hS.lt
  exact wp_ret (ret_o (fn := Try.f96) (R := fun v w' => ∃ (p : Nat) (s' : Int), v = .int .i64 (p : Int) ∧ (p = a ∨ p = b ∨ p = c) ∧ Blk w' gs 3 #[.int .i64 s'] ∧ OnlyB (fun i => i = gs) w w') s11 10 rfl rfl ⟨_, _, rfl, by omega, hS, z11⟩)
set_option maxRecDepth 100000 in
/-- medianAdjacentOrdered at uint64. -/
theorem cAdj {w : World} {g cap n : Nat} {d : Array Int} {a gs : Nat} {s : Int} (hD : RowD w g cap n d) (hn : n < 4611686018427387904) (h1 : 1 ≤ a) (ha : a + 1 < n) (hS : Blk w gs 3 #[.int .i64 s]) : Calls Try.prog 95 #[slD g n cap, .int .i64 (a : Int), ptrV gs] w fun e w' => ∃ v, e = .returned v ∧ ∃ (p : Nat) (s' : Int), v = .int .i64 (p : Int) ∧ (p = a - 1 ∨ p = a ∨ p = a + 1) ∧ Blk w' gs 3 #[.int .i64 s'] ∧ OnlyB (fun i => i = gs) w w' := by
  have z0 : OnlyB (fun i => i = gs) w w := OnlyB.refl _ _
  go_enter Try.func95, Try.ntmps95
  have hne := hD.ne hS (by decide)
  refine wp_seq ?_
  refine flowC mixed (st0 (U := False) (N := 15) (e := [(0, true, .val (slD g n cap)), (1, true, .val (.int .i64 (a : Int))), (2, true, .val (ptrV gs))]) (F := noF) rfl rfl (fok_no _ _) ⟨⟨rfl, rfl⟩, ⟨⟨rfl, rfl⟩, ⟨⟨rfl, rfl⟩, True.intro⟩⟩⟩) (by kernel_rfl) (by kernel_rfl) (cc rfl (p_assign g0 (oc _)) cn) fun a1 w1 b1 s1 => ?_
  have z1 := z0.below b1
  have hD := hD.below b1
  have hS := hS.below b1 hS.lt
  refine wp_seq ?_
  refine wp_region_lit ?_
  refine with_st (s1.keep (sc 0 rfl (sc 1 rfl (sc 2 rfl sn)))) fun s1 => ?_
  refine chainK 7 (cc rfl (p_move g0 (od rfl id))
      (cc rfl (p_move g0 (od rfl id))
      (cc rfl (p_binC (m' := ((a - 1 : Nat) : Int)) (fun _ => by rw [IntKind.wrap_i64]; omega) g0 (od rfl id) (oc _) b_sub_3)
      (cc rfl (p_move g0 (od rfl id))
      (cc rfl (p_move g0 (od rfl id))
      (cc rfl (p_binC (m' := ((a + 1 : Nat) : Int)) (fun _ => by rw [IntKind.wrap_i64]; omega) g0 (od rfl id) (oc _) b_add_3)
      (cc rfl (p_move g0 (od rfl id)) cn))))))) (by kernel_rfl) s1 fun a2 w2 b2 s2 => ?_
  have z2 := z1.below b2
  have hD := hD.below b2
  have hS := hS.below b2 hS.lt
  show wpList _ _ _ (_ :: _) _ _
  refine callR (R := fun v w' => ∃ (p : Nat) (s' : Int), v = .int .i64 (p : Int) ∧ (p = a - 1 ∨ p = a ∨ p = a + 1) ∧ Blk w' gs 3 #[.int .i64 s'] ∧ OnlyB (fun i => i = gs) w2 w') [.tmp 7, .tmp 9, .tmp 10, .tmp 12, .tmp 13] [slD g n cap, .int .i64 ((a - 1 : Nat) : Int), .int .i64 ((a : Nat) : Int), .int .i64 ((a + 1 : Nat) : Int), ptrV gs] s2 (by simp [Region.wanted]) (fun _ _ => by kernel_rfl) rfl (by decide) (ac (s2.get 7 rfl) (ac (s2.get 9 rfl) (ac (s2.get 10 rfl) (ac (s2.get 12 rfl) (ac (s2.get 13 rfl) an0))))) (cMed hD (by omega) (by omega) (by omega) hS) (vv 0 rfl (vv 1 rfl (vv 2 rfl vn))) fun v3 a3 w3 hR3 s3 => ?_
  obtain ⟨p, sp, e3, hp, hS, hz3⟩ := hR3
  have hD := hD.only hz3 hne
  have z3 := z2.trans hz3 (fun _ _ h => h)
  have s3 := s3.more 14 (y := .int .i64 (p : Int)) ((s3.get 14 rfl).trans e3)
  refine chainK 1 (cc rfl (p_assign g0 (od rfl id)) cn) (by kernel_rfl) s3 fun a4 w4 b4 s4 => ?_
  have z4 := z3.below b4
  have hD := hD.below b4
  have hS := hS.below b4 hS.lt
  refine wpList_done ?_
  exact wp_ret (ret_o (fn := Try.f95) (R := fun v w' => ∃ (p : Nat) (s' : Int), v = .int .i64 (p : Int) ∧ (p = a - 1 ∨ p = a ∨ p = a + 1) ∧ Blk w' gs 3 #[.int .i64 s'] ∧ OnlyB (fun i => i = gs) w w') s4 6 rfl rfl ⟨_, _, rfl, by omega, hS, z4⟩)
set_option maxRecDepth 100000 in
/-- choosePivotOrdered at uint64. -/
theorem cPiv {w : World} {g cap n : Nat} {d : Array Int} {a b : Nat} (hD : RowD w g cap n d) (hn : n < 4611686018427387904) (hab : a + 12 < b) (hb : b ≤ n) : Calls Try.prog 81 #[slD g n cap, .int .i64 (a : Int), .int .i64 (b : Int)] w fun e w' => ∃ v, e = .returned v ∧ ∃ (p : Nat) (h : Int), v = .tuple #[.int .i64 (p : Int), .int .i64 h] ∧ a ≤ p ∧ p < b ∧ Below w.heap.size w w' := by
  have z0 : OnlyB (fun _ => False) w w := OnlyB.refl _ _
  go_enter Try.func81, Try.ntmps81
  refine wp_seq ?_
  refine flowC mixed (st0 (U := False) (N := 57) (e := [(0, true, .val (slD g n cap)), (1, true, .val (.int .i64 (a : Int))), (2, true, .val (.int .i64 (b : Int)))]) (F := noF) rfl rfl (fok_no _ _) ⟨⟨rfl, rfl⟩, ⟨⟨rfl, rfl⟩, ⟨⟨rfl, rfl⟩, True.intro⟩⟩⟩) (by kernel_rfl) (by kernel_rfl) (cc rfl (p_assign g0 (oc _))
      (cc rfl (p_assign g0 (oc _)) cn)) fun a1 w1 b1 s1 => ?_
  have z1 := z0.below b1
  have hD := hD.below b1
  refine wp_seq ?_
  refine flowC mixed (s1.keep (sc 0 rfl (sc 1 rfl (sc 2 rfl (sc 6 rfl (sc 7 rfl sn)))))) (by kernel_rfl) (by kernel_rfl) (cc rfl (p_move g0 (od rfl id))
      (cc rfl (p_move g0 (od rfl id))
      (cc rfl (p_binC (m' := ((b - a : Nat) : Int)) (fun _ => by rw [IntKind.wrap_i64]; omega) g0 (od rfl id) (od rfl id) b_sub_3)
      (cc rfl (p_assign g0 (od rfl id)) cn)))) fun a2 w2 b2 s2 => ?_
  have z2 := z1.below b2
  have hD := hD.below b2
  refine wp_seq ?_
  refine wp_region_lit ?_
  refine with_st (s2.keep (sc 0 rfl (sc 1 rfl (sc 6 rfl (sc 7 rfl (sc 8 rfl sn)))))) fun s2 => ?_
  show wpList _ _ _ (_ :: _) _ _
  refine alloc_on (u := 3) (z := #[.int .i64 0]) s2 (by simp [Region.wanted]) rfl (by decide) (al_3 _ _) (vv 0 rfl (vv 1 rfl (vv 6 rfl (vv 7 rfl (vv 8 rfl vn))))) fun gs a3 w3 hS hgs b3 s3 => ?_
  have hgs := Nat.le_trans z2.size hgs
  have z3 := z2.below b3
  have hD := hD.below b3
  have hne := hD.ne hS (by decide)
  refine wpList_done ?_
  refine wp_seq ?_
  refine flowC mixed (s3.keep (sc 0 rfl (sc 1 rfl (sc 6 rfl (sc 7 rfl (sc 8 rfl (sc 9 rfl sn))))))) (by kernel_rfl) (by kernel_rfl) (cc rfl (p_move g0 (od rfl id))
      (cc rfl (p_move g0 (od rfl id))
      (cc rfl (p_binC (m' := (((b - a) / 4 : Nat) : Int)) (fun _ => rfl) g0 (od rfl id) (oc _) (b_quo_3 (a := (b - a)) (b := 4) (by omega) (by omega)))
      (cc rfl (p_binC (m' := (((b - a) / 4 * 1 : Nat) : Int)) (fun _ => by rw [IntKind.wrap_i64]; omega) g0 (od rfl id) (oc _) b_mul_3)
      (cc rfl (p_binC (m' := ((a + (b - a) / 4 * 1 : Nat) : Int)) (fun _ => by rw [IntKind.wrap_i64]; omega) g0 (od rfl id) (od rfl id) b_add_3)
      (cc rfl (p_assign g0 (od rfl id)) cn)))))) fun a4 w4 b4 s4 => ?_
  have z4 := z3.below b4
  have hD := hD.below b4
  have hS := hS.below b4 hS.lt
  refine wp_seq ?_
  refine flowC mixed (s4.keep (sc 0 rfl (sc 1 rfl (sc 6 rfl (sc 7 rfl (sc 8 rfl (sc 9 rfl (sc 10 rfl sn)))))))) (by kernel_rfl) (by kernel_rfl) (cc rfl (p_move g0 (od rfl id))
      (cc rfl (p_move g0 (od rfl id))
      (cc rfl (p_binC (m' := (((b - a) / 4 : Nat) : Int)) (fun _ => rfl) g0 (od rfl id) (oc _) (b_quo_3 (a := (b - a)) (b := 4) (by omega) (by omega)))
      (cc rfl (p_binC (m' := (((b - a) / 4 * 2 : Nat) : Int)) (fun _ => by rw [IntKind.wrap_i64]; omega) g0 (od rfl id) (oc _) b_mul_3)
      (cc rfl (p_binC (m' := ((a + (b - a) / 4 * 2 : Nat) : Int)) (fun _ => by rw [IntKind.wrap_i64]; omega) g0 (od rfl id) (od rfl id) b_add_3)
      (cc rfl (p_assign g0 (od rfl id)) cn)))))) fun a5 w5 b5 s5 => ?_
  have z5 := z4.below b5
  have hD := hD.below b5
  have hS := hS.below b5 hS.lt
  refine wp_seq ?_
  refine flowC mixed (s5.keep (sc 0 rfl (sc 1 rfl (sc 6 rfl (sc 7 rfl (sc 8 rfl (sc 9 rfl (sc 10 rfl (sc 11 rfl sn))))))))) (by kernel_rfl) (by kernel_rfl) (cc rfl (p_move g0 (od rfl id))
      (cc rfl (p_move g0 (od rfl id))
      (cc rfl (p_binC (m' := (((b - a) / 4 : Nat) : Int)) (fun _ => rfl) g0 (od rfl id) (oc _) (b_quo_3 (a := (b - a)) (b := 4) (by omega) (by omega)))
      (cc rfl (p_binC (m' := (((b - a) / 4 * 3 : Nat) : Int)) (fun _ => by rw [IntKind.wrap_i64]; omega) g0 (od rfl id) (oc _) b_mul_3)
      (cc rfl (p_binC (m' := ((a + (b - a) / 4 * 3 : Nat) : Int)) (fun _ => by rw [IntKind.wrap_i64]; omega) g0 (od rfl id) (od rfl id) b_add_3)
      (cc rfl (p_assign g0 (od rfl id)) cn)))))) fun a6 w6 b6 s6 => ?_
  have z6 := z5.below b6
  have hD := hD.below b6
  have hS := hS.below b6 hS.lt
  refine wp_seq ?_
  refine wp_seq ?_
  refine flowC mixed (s6.keep (sc 0 rfl (sc 6 rfl (sc 7 rfl (sc 8 rfl (sc 9 rfl (sc 10 rfl (sc 11 rfl (sc 12 rfl sn))))))))) (by kernel_rfl) (by kernel_rfl) (cc rfl (p_move g0 (od rfl id))
      (cc rfl (p_bin g0 (od rfl id) (oc _) b_geq_3) cn)) fun a7 w7 b7 s7 => ?_
  have z7 := z6.below b7
  have hD := hD.below b7
  have hS := hS.below b7 hS.lt
  refine s7.cond 32 rfl (fun _ => ?_) (fun h => absurd h (by simp; omega))
  refine wp_seq ?_
  refine wp_seq ?_
  refine flowC mixed (s7.keep (sc 0 rfl (sc 6 rfl (sc 7 rfl (sc 8 rfl (sc 9 rfl (sc 10 rfl (sc 11 rfl (sc 12 rfl sn))))))))) (by kernel_rfl) (by kernel_rfl) (cc rfl (p_move g0 (od rfl id))
      (cc rfl (p_bin g0 (od rfl id) (oc _) b_geq_3) cn)) fun a8 w8 b8 s8 => ?_
  have z8 := z7.below b8
  have hD := hD.below b8
  have hS := hS.below b8 hS.lt
  refine s8.cond 34 rfl (fun h34 => ?_) (fun h34 => ?_)
  · -- true
    refine wp_seq ?_
    refine wp_region_lit ?_
    refine with_st (s8.keep (sc 0 rfl (sc 6 rfl (sc 7 rfl (sc 9 rfl (sc 10 rfl (sc 11 rfl (sc 12 rfl sn)))))))) fun s8 => ?_
    refine chainK 2 (cc rfl (p_move g0 (od rfl id))
        (cc rfl (p_move g0 (od rfl id)) cn)) (by kernel_rfl) s8 fun a9 w9 b9 s9 => ?_
    have z9 := z8.below b9
    have hD := hD.below b9
    have hS := hS.below b9 hS.lt
    show wpList _ _ _ (_ :: _) _ _
    refine callR (R := fun v w' => ∃ (p : Nat) (s' : Int), v = .int .i64 (p : Int) ∧ (p = a + (b - a) / 4 * 1 - 1 ∨ p = a + (b - a) / 4 * 1 ∨ p = a + (b - a) / 4 * 1 + 1) ∧ Blk w' gs 3 #[.int .i64 s'] ∧ OnlyB (fun i => i = gs) w9 w') [.tmp 35, .tmp 36, .tmp 9] [slD g n cap, .int .i64 ((a + (b - a) / 4 * 1 : Nat) : Int), ptrV gs] s9 (by simp [Region.wanted]) (fun _ _ => by kernel_rfl) rfl (by decide) (ac (s9.get 35 rfl) (ac (s9.get 36 rfl) (ac (s9.get 9 rfl) an0))) (cAdj hD hn (by omega) (by omega) hS) (vv 0 rfl (vv 6 rfl (vv 7 rfl (vv 9 rfl (vv 10 rfl (vv 11 rfl (vv 12 rfl vn))))))) fun v10 a10 w10 hR10 s10 => ?_
    obtain ⟨i1, si1, e10, hi1, hS, hz10⟩ := hR10
    have hD := hD.only hz10 hne
    have z10 := z9.trans hz10 (fun x h1 h2 => by omega)
    have s10 := s10.more 37 (y := .int .i64 (i1 : Int)) ((s10.get 37 rfl).trans e10)
    refine chainK 1 (cc rfl (p_assign g0 (od rfl id)) cn) (by kernel_rfl) s10 fun a11 w11 b11 s11 => ?_
    have z11 := z10.below b11
    have hD := hD.below b11
    have hS := hS.below b11 hS.lt
    refine wpList_done ?_
    refine wp_seq ?_
    refine wp_region_lit ?_
    refine with_st (s11.keep (sc 0 rfl (sc 6 rfl (sc 7 rfl (sc 9 rfl (sc 10 rfl (sc 11 rfl (sc 12 rfl sn)))))))) fun s11 => ?_
    refine chainK 2 (cc rfl (p_move g0 (od rfl id))
        (cc rfl (p_move g0 (od rfl id)) cn)) (by kernel_rfl) s11 fun a12 w12 b12 s12 => ?_
    have z12 := z11.below b12
    have hD := hD.below b12
    have hS := hS.below b12 hS.lt
    show wpList _ _ _ (_ :: _) _ _
    refine callR (R := fun v w' => ∃ (p : Nat) (s' : Int), v = .int .i64 (p : Int) ∧ (p = a + (b - a) / 4 * 2 - 1 ∨ p = a + (b - a) / 4 * 2 ∨ p = a + (b - a) / 4 * 2 + 1) ∧ Blk w' gs 3 #[.int .i64 s'] ∧ OnlyB (fun i => i = gs) w12 w') [.tmp 38, .tmp 39, .tmp 9] [slD g n cap, .int .i64 ((a + (b - a) / 4 * 2 : Nat) : Int), ptrV gs] s12 (by simp [Region.wanted]) (fun _ _ => by kernel_rfl) rfl (by decide) (ac (s12.get 38 rfl) (ac (s12.get 39 rfl) (ac (s12.get 9 rfl) an0))) (cAdj hD hn (by omega) (by omega) hS) (vv 0 rfl (vv 6 rfl (vv 7 rfl (vv 9 rfl (vv 10 rfl (vv 11 rfl (vv 12 rfl vn))))))) fun v13 a13 w13 hR13 s13 => ?_
    obtain ⟨j1, sj1, e13, hj1, hS, hz13⟩ := hR13
    have hD := hD.only hz13 hne
    have z13 := z12.trans hz13 (fun x h1 h2 => by omega)
    have s13 := s13.more 40 (y := .int .i64 (j1 : Int)) ((s13.get 40 rfl).trans e13)
    refine chainK 1 (cc rfl (p_assign g0 (od rfl id)) cn) (by kernel_rfl) s13 fun a14 w14 b14 s14 => ?_
    have z14 := z13.below b14
    have hD := hD.below b14
    have hS := hS.below b14 hS.lt
    refine wpList_done ?_
    refine wp_region_lit ?_
    refine with_st (s14.keep (sc 0 rfl (sc 6 rfl (sc 7 rfl (sc 9 rfl (sc 10 rfl (sc 11 rfl (sc 12 rfl sn)))))))) fun s14 => ?_
    refine chainK 2 (cc rfl (p_move g0 (od rfl id))
        (cc rfl (p_move g0 (od rfl id)) cn)) (by kernel_rfl) s14 fun a15 w15 b15 s15 => ?_
    have z15 := z14.below b15
    have hD := hD.below b15
    have hS := hS.below b15 hS.lt
    show wpList _ _ _ (_ :: _) _ _
    refine callR (R := fun v w' => ∃ (p : Nat) (s' : Int), v = .int .i64 (p : Int) ∧ (p = a + (b - a) / 4 * 3 - 1 ∨ p = a + (b - a) / 4 * 3 ∨ p = a + (b - a) / 4 * 3 + 1) ∧ Blk w' gs 3 #[.int .i64 s'] ∧ OnlyB (fun i => i = gs) w15 w') [.tmp 41, .tmp 42, .tmp 9] [slD g n cap, .int .i64 ((a + (b - a) / 4 * 3 : Nat) : Int), ptrV gs] s15 (by simp [Region.wanted]) (fun _ _ => by kernel_rfl) rfl (by decide) (ac (s15.get 41 rfl) (ac (s15.get 42 rfl) (ac (s15.get 9 rfl) an0))) (cAdj hD hn (by omega) (by omega) hS) (vv 0 rfl (vv 6 rfl (vv 7 rfl (vv 9 rfl (vv 10 rfl (vv 11 rfl (vv 12 rfl vn))))))) fun v16 a16 w16 hR16 s16 => ?_
    obtain ⟨k1, sk1, e16, hk1, hS, hz16⟩ := hR16
    have hD := hD.only hz16 hne
    have z16 := z15.trans hz16 (fun x h1 h2 => by omega)
    have s16 := s16.more 43 (y := .int .i64 (k1 : Int)) ((s16.get 43 rfl).trans e16)
    refine chainK 1 (cc rfl (p_assign g0 (od rfl id)) cn) (by kernel_rfl) s16 fun a17 w17 b17 s17 => ?_
    have z17 := z16.below b17
    have hD := hD.below b17
    have hS := hS.below b17 hS.lt
    refine wpList_done ?_
    refine wp_region_lit ?_
    refine with_st (s17.keep (sc 0 rfl (sc 6 rfl (sc 7 rfl (sc 9 rfl (sc 10 rfl (sc 11 rfl (sc 12 rfl sn)))))))) fun s17 => ?_
    refine chainK 4 (cc rfl (p_move g0 (od rfl id))
        (cc rfl (p_move g0 (od rfl id))
        (cc rfl (p_move g0 (od rfl id))
        (cc rfl (p_move g0 (od rfl id)) cn)))) (by kernel_rfl) s17 fun a18 w18 b18 s18 => ?_
    have z18 := z17.below b18
    have hD := hD.below b18
    have hS := hS.below b18 hS.lt
    show wpList _ _ _ (_ :: _) _ _
    refine callR (R := fun v w' => ∃ (p : Nat) (s' : Int), v = .int .i64 (p : Int) ∧ (p = i1 ∨ p = j1 ∨ p = k1) ∧ Blk w' gs 3 #[.int .i64 s'] ∧ OnlyB (fun i => i = gs) w18 w') [.tmp 44, .tmp 45, .tmp 46, .tmp 47, .tmp 9] [slD g n cap, .int .i64 ((i1 : Nat) : Int), .int .i64 ((j1 : Nat) : Int), .int .i64 ((k1 : Nat) : Int), ptrV gs] s18 (by simp [Region.wanted]) (fun _ _ => by kernel_rfl) rfl (by decide) (ac (s18.get 44 rfl) (ac (s18.get 45 rfl) (ac (s18.get 46 rfl) (ac (s18.get 47 rfl) (ac (s18.get 9 rfl) an0))))) (cMed hD (by omega) (by omega) (by omega) hS) (vv 0 rfl (vv 6 rfl (vv 7 rfl (vv 9 rfl vn)))) fun v19 a19 w19 hR19 s19 => ?_
    obtain ⟨p, sp, e19, hp, hS, hz19⟩ := hR19
    have hD := hD.only hz19 hne
    have z19 := z18.trans hz19 (fun x h1 h2 => by omega)
    have s19 := s19.more 48 (y := .int .i64 (p : Int)) ((s19.get 48 rfl).trans e19)
    refine chainK 1 (cc rfl (p_assign g0 (od rfl id)) cn) (by kernel_rfl) s19 fun a20 w20 b20 s20 => ?_
    have z20 := z19.below b20
    have hD := hD.below b20
    have hS := hS.below b20 hS.lt
    refine wpList_done ?_
    refine wp_seq ?_
    have s20 := s20.more 9 (y := .bp gs 3 #[.int .i64 sp] 0) (at_obj hS (s20.get 9 rfl))
    refine flowC mixed (s20.keep (sc 6 rfl (sc 7 rfl (sc 9 rfl (sc 11 rfl sn))))) (by kernel_rfl) (by kernel_rfl) (cc rfl (p_ldB ld_3 rfl g0 (od rfl id)) cn) fun a21 w21 b21 s21 => ?_
    have z21 := z20.below b21
    have hD := hD.below b21
    have hS := hS.below b21 hS.lt
    refine wp_block ?_
    refine wp_seq ?_
    refine flowC mixed (s21.keep (sc 6 rfl (sc 7 rfl (sc 11 rfl (sc 49 rfl sn))))) (by kernel_rfl) (by kernel_rfl) (cc rfl (p_bin g0 (od rfl id) (oc _) b_eql_3)
        (cc rfl (p_assign g0 (od rfl id)) cn)) fun a22 w22 b22 s22 => ?_
    have z22 := z21.below b22
    have hD := hD.below b22
    have hS := hS.below b22 hS.lt
    refine s22.cond 51 rfl (fun h51 => ?_) (fun h51 => ?_)
    · -- true
      refine wp_seq ?_
      refine flowT (s22.keep (sc 6 rfl (sc 7 rfl (sc 11 rfl sn)))) (by kernel_rfl) (cc rfl (p_move g0 (od rfl id))
          (cc rfl (p_assign g0 (od rfl id))
          (cc rfl (p_assign g0 (oc _)) cn))) fun a23 w23 b23 s23 => ?_
      have z23 := z22.below b23
      have hD := hD.below b23
      have hS := hS.below b23 hS.lt
      exact wp_ret (ret_o2 (fn := Try.f81) (R := fun v w' => ∃ (p : Nat) (h : Int), v = .tuple #[.int .i64 (p : Int), .int .i64 h] ∧ a ≤ p ∧ p < b ∧ Below w.heap.size w w') s23 6 7 rfl rfl rfl ⟨_, _, rfl, by omega, by omega, z23.to_below (fun _ _ h => h) (Nat.le_refl _)⟩)
    · -- false
      refine wp_seq ?_
      refine flowC mixed (s22.keep (sc 6 rfl (sc 7 rfl (sc 11 rfl (sc 49 rfl sn))))) (by kernel_rfl) (by kernel_rfl) (cc rfl (p_bin g0 (od rfl id) (oc _) b_eql_3)
          (cc rfl (p_assign g0 (od rfl id)) cn)) fun a24 w24 b24 s24 => ?_
      have z24 := z22.below b24
      have hD := hD.below b24
      have hS := hS.below b24 hS.lt
      refine s24.cond 54 rfl (fun h54 => ?_) (fun h54 => ?_)
      · -- true
        refine wp_seq ?_
        refine flowT (s24.keep (sc 6 rfl (sc 7 rfl (sc 11 rfl sn)))) (by kernel_rfl) (cc rfl (p_move g0 (od rfl id))
            (cc rfl (p_assign g0 (od rfl id))
            (cc rfl (p_assign g0 (oc _)) cn))) fun a25 w25 b25 s25 => ?_
        have z25 := z24.below b25
        have hD := hD.below b25
        have hS := hS.below b25 hS.lt
        exact wp_ret (ret_o2 (fn := Try.f81) (R := fun v w' => ∃ (p : Nat) (h : Int), v = .tuple #[.int .i64 (p : Int), .int .i64 h] ∧ a ≤ p ∧ p < b ∧ Below w.heap.size w w') s25 6 7 rfl rfl rfl ⟨_, _, rfl, by omega, by omega, z25.to_below (fun _ _ h => h) (Nat.le_refl _)⟩)
      · -- false
        refine wp_seq ?_
        refine flowT (s24.keep (sc 6 rfl (sc 7 rfl (sc 11 rfl sn)))) (by kernel_rfl) (cc rfl (p_move g0 (od rfl id))
            (cc rfl (p_assign g0 (od rfl id))
            (cc rfl (p_assign g0 (oc _)) cn))) fun a26 w26 b26 s26 => ?_
        have z26 := z24.below b26
        have hD := hD.below b26
        have hS := hS.below b26 hS.lt
        exact wp_ret (ret_o2 (fn := Try.f81) (R := fun v w' => ∃ (p : Nat) (h : Int), v = .tuple #[.int .i64 (p : Int), .int .i64 h] ∧ a ≤ p ∧ p < b ∧ Below w.heap.size w w') s26 6 7 rfl rfl rfl ⟨_, _, rfl, by omega, by omega, z26.to_below (fun _ _ h => h) (Nat.le_refl _)⟩)
  · -- false
    obtain ⟨i1, hi1⟩ : ∃ i1, i1 = a + (b - a) / 4 * 1 := ⟨_, rfl⟩
    have s8 := s8.more 10 (y := .int .i64 (i1 : Int)) ((s8.get 10 rfl).trans (by rw [hi1]))
    obtain ⟨j1, hj1⟩ : ∃ j1, j1 = a + (b - a) / 4 * 2 := ⟨_, rfl⟩
    have s8 := s8.more 11 (y := .int .i64 (j1 : Int)) ((s8.get 11 rfl).trans (by rw [hj1]))
    obtain ⟨k1, hk1⟩ : ∃ k1, k1 = a + (b - a) / 4 * 3 := ⟨_, rfl⟩
    have s8 := s8.more 12 (y := .int .i64 (k1 : Int)) ((s8.get 12 rfl).trans (by rw [hk1]))
    refine wp_skip ?_
    refine wp_region_lit ?_
    refine with_st (s8.keep (sc 0 rfl (sc 6 rfl (sc 7 rfl (sc 9 rfl (sc 10 rfl (sc 11 rfl (sc 12 rfl sn)))))))) fun s8 => ?_
    refine chainK 4 (cc rfl (p_move g0 (od rfl id))
        (cc rfl (p_move g0 (od rfl id))
        (cc rfl (p_move g0 (od rfl id))
        (cc rfl (p_move g0 (od rfl id)) cn)))) (by kernel_rfl) s8 fun a27 w27 b27 s27 => ?_
    have z27 := z8.below b27
    have hD := hD.below b27
    have hS := hS.below b27 hS.lt
    show wpList _ _ _ (_ :: _) _ _
    refine callR (R := fun v w' => ∃ (p : Nat) (s' : Int), v = .int .i64 (p : Int) ∧ (p = i1 ∨ p = j1 ∨ p = k1) ∧ Blk w' gs 3 #[.int .i64 s'] ∧ OnlyB (fun i => i = gs) w27 w') [.tmp 44, .tmp 45, .tmp 46, .tmp 47, .tmp 9] [slD g n cap, .int .i64 ((i1 : Nat) : Int), .int .i64 ((j1 : Nat) : Int), .int .i64 ((k1 : Nat) : Int), ptrV gs] s27 (by simp [Region.wanted]) (fun _ _ => by kernel_rfl) rfl (by decide) (ac (s27.get 44 rfl) (ac (s27.get 45 rfl) (ac (s27.get 46 rfl) (ac (s27.get 47 rfl) (ac (s27.get 9 rfl) an0))))) (cMed hD (by omega) (by omega) (by omega) hS) (vv 0 rfl (vv 6 rfl (vv 7 rfl (vv 9 rfl vn)))) fun v28 a28 w28 hR28 s28 => ?_
    obtain ⟨p, sp, e28, hp, hS, hz28⟩ := hR28
    have hD := hD.only hz28 hne
    have z28 := z27.trans hz28 (fun x h1 h2 => by omega)
    have s28 := s28.more 48 (y := .int .i64 (p : Int)) ((s28.get 48 rfl).trans e28)
    refine chainK 1 (cc rfl (p_assign g0 (od rfl id)) cn) (by kernel_rfl) s28 fun a29 w29 b29 s29 => ?_
    have z29 := z28.below b29
    have hD := hD.below b29
    have hS := hS.below b29 hS.lt
    refine wpList_done ?_
    refine wp_seq ?_
    have s29 := s29.more 9 (y := .bp gs 3 #[.int .i64 sp] 0) (at_obj hS (s29.get 9 rfl))
    refine flowC mixed (s29.keep (sc 6 rfl (sc 7 rfl (sc 9 rfl (sc 11 rfl sn))))) (by kernel_rfl) (by kernel_rfl) (cc rfl (p_ldB ld_3 rfl g0 (od rfl id)) cn) fun a30 w30 b30 s30 => ?_
    have z30 := z29.below b30
    have hD := hD.below b30
    have hS := hS.below b30 hS.lt
    refine wp_block ?_
    refine wp_seq ?_
    refine flowC mixed (s30.keep (sc 6 rfl (sc 7 rfl (sc 11 rfl (sc 49 rfl sn))))) (by kernel_rfl) (by kernel_rfl) (cc rfl (p_bin g0 (od rfl id) (oc _) b_eql_3)
        (cc rfl (p_assign g0 (od rfl id)) cn)) fun a31 w31 b31 s31 => ?_
    have z31 := z30.below b31
    have hD := hD.below b31
    have hS := hS.below b31 hS.lt
    refine s31.cond 51 rfl (fun h51 => ?_) (fun h51 => ?_)
    · -- true
      refine wp_seq ?_
      refine flowT (s31.keep (sc 6 rfl (sc 7 rfl (sc 11 rfl sn)))) (by kernel_rfl) (cc rfl (p_move g0 (od rfl id))
          (cc rfl (p_assign g0 (od rfl id))
          (cc rfl (p_assign g0 (oc _)) cn))) fun a32 w32 b32 s32 => ?_
      have z32 := z31.below b32
      have hD := hD.below b32
      have hS := hS.below b32 hS.lt
      exact wp_ret (ret_o2 (fn := Try.f81) (R := fun v w' => ∃ (p : Nat) (h : Int), v = .tuple #[.int .i64 (p : Int), .int .i64 h] ∧ a ≤ p ∧ p < b ∧ Below w.heap.size w w') s32 6 7 rfl rfl rfl ⟨_, _, rfl, by omega, by omega, z32.to_below (fun _ _ h => h) (Nat.le_refl _)⟩)
    · -- false
      refine wp_seq ?_
      refine flowC mixed (s31.keep (sc 6 rfl (sc 7 rfl (sc 11 rfl (sc 49 rfl sn))))) (by kernel_rfl) (by kernel_rfl) (cc rfl (p_bin g0 (od rfl id) (oc _) b_eql_3)
          (cc rfl (p_assign g0 (od rfl id)) cn)) fun a33 w33 b33 s33 => ?_
      have z33 := z31.below b33
      have hD := hD.below b33
      have hS := hS.below b33 hS.lt
      refine s33.cond 54 rfl (fun h54 => ?_) (fun h54 => ?_)
      · -- true
        refine wp_seq ?_
        refine flowT (s33.keep (sc 6 rfl (sc 7 rfl (sc 11 rfl sn)))) (by kernel_rfl) (cc rfl (p_move g0 (od rfl id))
            (cc rfl (p_assign g0 (od rfl id))
            (cc rfl (p_assign g0 (oc _)) cn))) fun a34 w34 b34 s34 => ?_
        have z34 := z33.below b34
        have hD := hD.below b34
        have hS := hS.below b34 hS.lt
        exact wp_ret (ret_o2 (fn := Try.f81) (R := fun v w' => ∃ (p : Nat) (h : Int), v = .tuple #[.int .i64 (p : Int), .int .i64 h] ∧ a ≤ p ∧ p < b ∧ Below w.heap.size w w') s34 6 7 rfl rfl rfl ⟨_, _, rfl, by omega, by omega, z34.to_below (fun _ _ h => h) (Nat.le_refl _)⟩)
      · -- false
        refine wp_seq ?_
        refine flowT (s33.keep (sc 6 rfl (sc 7 rfl (sc 11 rfl sn)))) (by kernel_rfl) (cc rfl (p_move g0 (od rfl id))
            (cc rfl (p_assign g0 (od rfl id))
            (cc rfl (p_assign g0 (oc _)) cn))) fun a35 w35 b35 s35 => ?_
        have z35 := z33.below b35
        have hD := hD.below b35
        have hS := hS.below b35 hS.lt
        exact wp_ret (ret_o2 (fn := Try.f81) (R := fun v w' => ∃ (p : Nat) (h : Int), v = .tuple #[.int .i64 (p : Int), .int .i64 h] ∧ a ≤ p ∧ p < b ∧ Below w.heap.size w w') s35 6 7 rfl rfl rfl ⟨_, _, rfl, by omega, by omega, z35.to_below (fun _ _ h => h) (Nat.le_refl _)⟩)

end Go.Proofs.Ytbeeiecbbmiojaa.Y

/- Ysh: slices.Sort at uint64: the partitions -/
namespace Go.Proofs.Ytbeeiecbbmiojaa.Y
open Go.RowKit Go.ChangeShapes Go.WideShapes Go.ChangeAt Go.ChangeMaps Go.MapKept

open Go.Sort (ltInt swp scanUp scanDown partLoop partEqLoop partition partitionEqual)
theorem up_go {p : Int → Bool} {d : Array Int} {i j : Nat} (h : (decide ((i : Int) ≤ (j : Int)) && p d[i]!) = true) : scanUp p d j i = scanUp p d j (i + 1) := by
  rw [Bool.and_eq_true, decide_eq_true_eq] at h
  rw [scanUp, if_pos (by rw [Bool.and_eq_true, decide_eq_true_eq]; exact ⟨by omega, h.2⟩)]
theorem up_end {p : Int → Bool} {d : Array Int} {i j : Nat} (h : (decide ((i : Int) ≤ (j : Int)) && p d[i]!) = false) : scanUp p d j i = i := by
  rw [scanUp, if_neg (fun h2 => by
    rw [Bool.and_eq_true, decide_eq_true_eq] at h2
    rw [h2.2, Bool.and_true, decide_eq_false_iff_not] at h
    omega)]
theorem dn_go {p : Int → Bool} {d : Array Int} {i j : Nat} (hi : 1 ≤ i) (h : (decide ((i : Int) ≤ (j : Int)) && p d[j]!) = true) : scanDown p d i j = scanDown p d i (j - 1) := by
  rw [Bool.and_eq_true, decide_eq_true_eq] at h
  cases j with
  | zero => omega
  | succ j =>
    rw [scanDown, if_pos (by rw [Bool.and_eq_true, decide_eq_true_eq]; exact ⟨by omega, h.2⟩)]
    rfl
theorem dn_end {p : Int → Bool} {d : Array Int} {i j : Nat} (h : (decide ((i : Int) ≤ (j : Int)) && p d[j]!) = false) : scanDown p d i j = j := by
  cases j with
  | zero => rfl
  | succ j =>
    rw [scanDown, if_neg (fun h2 => by
      rw [Bool.and_eq_true, decide_eq_true_eq] at h2
      rw [h2.2, Bool.and_true, decide_eq_false_iff_not] at h
      omega)]
theorem part_one {d D : Array Int} {a b pv I J : Nat} (h0 : swp d a pv = D) (h1 : scanUp (fun x => ltInt x D[a]!) D (b - 1) (a + 1) = I) (h2 : scanDown (fun x => !ltInt x D[a]!) D I (b - 1) = J) (h : I > J) : partition ltInt d a b pv = (J, true, swp D J a) := by
  unfold partition
  simp only [h0, h1, h2]
  rw [if_pos h]
theorem part_two {d D : Array Int} {a b pv I J : Nat} {TL : Nat × Array Int} (h0 : swp d a pv = D) (h1 : scanUp (fun x => ltInt x D[a]!) D (b - 1) (a + 1) = I) (h2 : scanDown (fun x => !ltInt x D[a]!) D I (b - 1) = J) (h : ¬ I > J) (hT : partLoop ltInt a (I + 1) (J - 1) (swp D I J) = TL) : partition ltInt d a b pv = (TL.1, false, swp TL.2 TL.1 a) := by
  unfold partition
  simp only [h0, h1, h2, hT]
  rw [if_neg h]
set_option maxRecDepth 100000 in
/-- partitionEqualOrdered at uint64. -/
theorem cPeq {w : World} {g cap n : Nat} {d : Array Int} {a b pv : Nat} (hD : RowD w g cap n d) (hn : n < 4611686018427387904) (hap : a ≤ pv) (hpb : pv < b) (hb : b ≤ n) : Calls Try.prog 84 #[slD g n cap, .int .i64 (a : Int), .int .i64 (b : Int), .int .i64 (pv : Int)] w fun e w' => ∃ v, e = .returned v ∧ ∃ t : Nat × Array Int, partitionEqual ltInt d a b pv = t ∧ v = .int .i64 (t.1 : Int) ∧ RowD w' g cap n t.2 ∧ OnlyB (fun i => i = g) w w' := by
  have z0 : OnlyB (fun i => i = g) w w := OnlyB.refl _ _
  go_enter Try.func84, Try.ntmps84
  refine wp_seq ?_
  refine flowC mixed (st0 (U := False) (N := 84) (e := [(0, true, .val (slD g n cap)), (1, true, .val (.int .i64 (a : Int))), (2, true, .val (.int .i64 (b : Int))), (3, true, .val (.int .i64 (pv : Int)))]) (F := noF) rfl rfl (fok_no _ _) ⟨⟨rfl, rfl⟩, ⟨⟨rfl, rfl⟩, ⟨⟨rfl, rfl⟩, ⟨⟨rfl, rfl⟩, True.intro⟩⟩⟩⟩) (by kernel_rfl) (by kernel_rfl) (cc rfl (p_assign g0 (oc _)) cn) fun a1 w1 b1 s1 => ?_
  have z1 := z0.below b1
  have hD := hD.below b1
  refine wp_seq ?_
  refine flowD 13 23 18 (i := a) (z := d[pv]!) (vv 0 rfl (vv 1 rfl (vv 2 rfl (vv 3 rfl (vv 8 rfl vn))))) (by omega) s1 hD ⟨_, _, _, rfl⟩ (by kernel_rfl) (by kernel_rfl) (lc rfl (p_move g0 (od rfl id))
      (lc rfl (p_move g0 (od rfl id))
      (lc rfl (p_move g0 (od rfl id))
      (lc rfl (p_move g0 (od rfl id))
      (lc rfl (p_move g0 (od rfl id))
      (lc rfl (p_move g0 (od rfl id))
      (lc rfl (p_idxVD (i := pv) (by omega) g0 (od rfl id) (od rfl id))
      (ll rfl (p_ldL (i := pv) (by omega) g0 (od rfl id))
      (lc rfl (p_move g0 (od rfl id))
      (lc rfl (p_move g0 (od rfl id))
      (lc rfl (p_idxVD (i := a) (by omega) g0 (od rfl id) (od rfl id))
      (ll rfl (p_ldL (i := a) (by omega) g0 (od rfl id))
      (lc rfl (p_idxVD (i := a) (by omega) g0 (od rfl id) (od rfl id)) ln))))))))))))) (by kernel_rfl) rfl rfl (vv 0 rfl (vv 1 rfl (vv 2 rfl (vv 8 rfl (vv 13 rfl (vv 14 rfl (vv 22 rfl vn))))))) fun a2 w2 hD gS s2 => ?_
  have z2 := z1.grown gS (fun x _ e => by injection e with e; exact e.symm)
  refine chainK 1 (cc rfl (p_idxVD (i := pv) (by omega) g0 (od rfl id) (od rfl id)) cn) (by kernel_rfl) s2 fun a3 w3 b3 s3 => ?_
  have z3 := z2.below b3
  have hD := hD.below b3
  show wpList _ _ _ (_ :: _) _ _
  refine storeD_on (i := pv) (x := d[a]!) s3 rfl rfl rfl (s3.get 24 rfl) (s3.get 22 rfl) hD (by omega) (vv 0 rfl (vv 1 rfl (vv 2 rfl (vv 8 rfl vn)))) fun a4 w4 hD gS s4 => ?_
  have z4 := z3.grown gS (fun x _ e => by injection e with e; exact e.symm)
  have hD : RowD w4 g cap n (swp d a pv) := hD
  refine wpList_done ?_
  refine wp_seq ?_
  refine flowC mixed (s4.keep (sc 0 rfl (sc 1 rfl (sc 2 rfl (sc 8 rfl sn))))) (by kernel_rfl) (by kernel_rfl) (cc rfl (p_move g0 (od rfl id))
      (cc rfl (p_binC (m' := ((a + 1 : Nat) : Int)) (fun _ => by rw [IntKind.wrap_i64]; omega) g0 (od rfl id) (oc _) b_add_3)
      (cc rfl (p_move g0 (od rfl id))
      (cc rfl (p_binC (m' := ((b - 1 : Nat) : Int)) (fun _ => by rw [IntKind.wrap_i64]; omega) g0 (od rfl id) (oc _) b_sub_3)
      (cc rfl (p_assign g0 (od rfl id))
      (cc rfl (p_assign g0 (od rfl id)) cn)))))) fun a5 w5 b5 s5 => ?_
  have z5 := z4.below b5
  have hD := hD.below b5
  refine wp_seq ?_
  refine wp_block ?_
  obtain ⟨TL, hTL⟩ : ∃ TL, partEqLoop ltInt a (a + 1) (b - 1) (swp d a pv) = TL := ⟨_, rfl⟩
  refine wp_loopK (fun k ac wr => ∃ i j d', k = j + 1 - i ∧ 1 ≤ i ∧ i ≤ b ∧ j < b ∧ RowD wr g cap n d' ∧ partEqLoop ltInt a i j d' = TL ∧ OnlyB (fun i => i = g) w wr ∧ StE False 84 [(0, true, .val (slD g n cap)), (1, true, .val (.int .i64 (a : Int))), (9, true, .int .i64 (i : Int)), (10, true, .int .i64 (j : Int))] noF ac wr) (b - 1 + 1 - (a + 1)) ⟨a + 1, b - 1, _, rfl, by omega, by omega, by omega, hD, hTL, z5, s5.to _ ⟨rfl, rfl, rfl, rfl, True.intro⟩⟩ fun k a6 w6 hI => ?_
  obtain ⟨i0, j0, d1, rfl, hi0, hib0, hj0, hD, heq, z6, s6⟩ := hI
  obtain ⟨I, hI1⟩ : ∃ I, scanUp (fun x => !ltInt d1[a]! x) d1 j0 i0 = I := ⟨_, rfl⟩
  obtain ⟨J, hJ1⟩ : ∃ J, scanDown (fun x => ltInt d1[a]! x) d1 I j0 = J := ⟨_, rfl⟩
  rw [Go.Sort.partEqLoop_eq, hI1, hJ1] at heq
  have hIg : i0 ≤ I := by rw [← hI1]; exact Go.Sort.scanUp_ge _ _ _ _
  have hJg : J ≤ j0 := by rw [← hJ1]; exact Go.Sort.scanDown_le _ _ _ _
  refine wp_block ?_
  refine wp_seq ?_
  refine wp_block ?_
  have st0 : StE False 84 [(0, true, .val (slD g n cap)), (1, true, .val (.int .i64 (a : Int))), (10, true, .int .i64 (j0 : Int)), (9, true, .int .i64 (i0 : Nat))] noF _ _ := s6.to _ ⟨rfl, rfl, rfl, rfl, True.intro⟩
  refine wp_loopK (fun k ac wr => ∃ i, k = j0 + 1 - i ∧ 1 ≤ i ∧ i ≤ b ∧ scanUp (fun x => !ltInt d1[a]! x) d1 j0 i = I ∧ RowD wr g cap n d1 ∧ OnlyB (fun i => i = g) w wr ∧ StE False 84 [(0, true, .val (slD g n cap)), (1, true, .val (.int .i64 (a : Int))), (10, true, .int .i64 (j0 : Int)), (9, true, .int .i64 (i : Int))] noF ac wr) (j0 + 1 - i0) ⟨i0, rfl, by omega, by omega, hI1, hD, z6, st0⟩ fun k a7 w7 hI => ?_
  obtain ⟨i, rfl, h1i, hib, hsc, hD, z7, s7⟩ := hI
  refine wp_seq ?_
  refine wp_seq ?_
  have s7 := s7.more 0 (y := .rowD g n cap d1) (at_rowD hD (s7.get 0 rfl))
  refine flowC mixed (s7.keep (sc 0 rfl (sc 1 rfl (sc 9 rfl (sc 10 rfl sn))))) (by kernel_rfl) (by kernel_rfl) (cc rfl (p_move g0 (od rfl id))
      (cc rfl (p_move g0 (od rfl id))
      (cc rfl (p_bin g0 (od rfl id) (od rfl id) b_leq_3)
      (cc rfl (p_move g0 (od rfl id))
      (cc rfl (p_move (g1 rfl rfl) (od rfl (fun _ => rfl)))
      (cc rfl (p_move (g1 rfl rfl) (od rfl (fun _ => rfl)))
      (cc rfl (p_idxD (i := a) (fun h => by simp at h; omega) (g1 rfl rfl) (od rfl id) (od rfl id))
      (cc rfl (p_ldD (g1 rfl rfl) (od rfl id))
      (cc rfl (p_move (g1 rfl rfl) (od rfl (fun _ => rfl)))
      (cc rfl (p_move (g1 rfl rfl) (od rfl (fun _ => rfl)))
      (cc rfl (p_idxD (i := i) (fun h => by simp at h; omega) (g1 rfl rfl) (od rfl id) (od rfl id))
      (cc rfl (p_ldD (g1 rfl rfl) (od rfl id))
      (cc rfl (p_call 60 (g1 rfl rfl) (ox (od rfl id) (ox (od rfl id) ox0)) (fun _ _ => by kernel_rfl) f60)
      (cc rfl (p_not (g1 rfl rfl) (od rfl id))
      (cc rfl (p_and g0 (od rfl id) (od rfl id)) cn))))))))))))))) fun a8 w8 b8 s8 => ?_
  have z8 := z7.below b8
  have hD := hD.below b8
  have s8 := s8.more 0 (y := .val (slD g n cap)) (s8.get 0 rfl).1
  refine s8.cond 43 rfl (fun h43 => ?_) (fun h43 => ?_)
  · -- true
    have hle : ((i : Nat) : Int) ≤ ((j0 : Nat) : Int) := by have h2 := h43; rw [Bool.and_eq_true] at h2; exact of_decide_eq_true h2.1
    rw [up_go (p := (fun x => !ltInt d1[a]! x)) h43] at hsc
    refine wp_skip ?_
    refine wp_block ?_
    refine flowT (s8.keep (sc 0 rfl (sc 1 rfl (sc 9 rfl (sc 10 rfl (sc 29 rfl (sc 30 rfl (sc 31 rfl (sc 32 rfl (sc 33 rfl (sc 34 rfl (sc 35 rfl (sc 36 rfl (sc 37 rfl (sc 38 rfl (sc 39 rfl (sc 40 rfl (sc 41 rfl (sc 42 rfl (sc 43 rfl sn)))))))))))))))))))) (by kernel_rfl) (cc rfl (p_move g0 (od rfl id))
        (cc rfl (p_binC (m' := ((i + 1 : Nat) : Int)) (fun _ => by rw [IntKind.wrap_i64]; omega) g0 (od rfl id) (oc _) b_add_3)
        (cc rfl (p_assign g0 (od rfl id)) cn))) fun a9 w9 b9 s9 => ?_
    have z9 := z8.below b9
    have hD := hD.below b9
    exact ⟨j0 + 1 - (i + 1), by omega, i + 1, rfl, by omega, by omega, hsc, hD, z9, s9.to _ ⟨rfl, rfl, rfl, rfl, True.intro⟩⟩
  · -- false
    rw [up_end (p := (fun x => !ltInt d1[a]! x)) h43] at hsc
    subst hsc
    refine wp_exit ?_
    refine wp_seq ?_
    refine wp_block ?_
    have st0 : StE False 84 [(0, true, .val (slD g n cap)), (1, true, .val (.int .i64 (a : Int))), (9, true, .int .i64 (i : Int)), (10, true, .int .i64 (j0 : Nat))] noF _ _ := s8.to _ ⟨rfl, rfl, rfl, rfl, True.intro⟩
    refine wp_loopK (fun k ac wr => k < b ∧ scanDown (fun x => ltInt d1[a]! x) d1 i k = J ∧ RowD wr g cap n d1 ∧ OnlyB (fun i => i = g) w wr ∧ StE False 84 [(0, true, .val (slD g n cap)), (1, true, .val (.int .i64 (a : Int))), (9, true, .int .i64 (i : Int)), (10, true, .int .i64 (k : Int))] noF ac wr) (j0) ⟨by omega, hJ1, hD, z8, st0⟩ fun j a10 w10 hI => ?_
    obtain ⟨hjb, hsc, hD, z10, s10⟩ := hI
    refine wp_seq ?_
    refine wp_seq ?_
    have s10 := s10.more 0 (y := .rowD g n cap d1) (at_rowD hD (s10.get 0 rfl))
    refine flowC mixed (s10.keep (sc 0 rfl (sc 1 rfl (sc 9 rfl (sc 10 rfl sn))))) (by kernel_rfl) (by kernel_rfl) (cc rfl (p_move g0 (od rfl id))
        (cc rfl (p_move g0 (od rfl id))
        (cc rfl (p_bin g0 (od rfl id) (od rfl id) b_leq_3)
        (cc rfl (p_move g0 (od rfl id))
        (cc rfl (p_move (g1 rfl rfl) (od rfl (fun _ => rfl)))
        (cc rfl (p_move (g1 rfl rfl) (od rfl (fun _ => rfl)))
        (cc rfl (p_idxD (i := a) (fun h => by simp at h; omega) (g1 rfl rfl) (od rfl id) (od rfl id))
        (cc rfl (p_ldD (g1 rfl rfl) (od rfl id))
        (cc rfl (p_move (g1 rfl rfl) (od rfl (fun _ => rfl)))
        (cc rfl (p_move (g1 rfl rfl) (od rfl (fun _ => rfl)))
        (cc rfl (p_idxD (i := j) (fun h => by simp at h; omega) (g1 rfl rfl) (od rfl id) (od rfl id))
        (cc rfl (p_ldD (g1 rfl rfl) (od rfl id))
        (cc rfl (p_call 60 (g1 rfl rfl) (ox (od rfl id) (ox (od rfl id) ox0)) (fun _ _ => by kernel_rfl) f60)
        (cc rfl (p_and g0 (od rfl id) (od rfl id)) cn)))))))))))))) fun a11 w11 b11 s11 => ?_
    have z11 := z10.below b11
    have hD := hD.below b11
    have s11 := s11.more 0 (y := .val (slD g n cap)) (s11.get 0 rfl).1
    refine s11.cond 59 rfl (fun h59 => ?_) (fun h59 => ?_)
    · -- true
      have hle : ((i : Nat) : Int) ≤ ((j : Nat) : Int) := by have h2 := h59; rw [Bool.and_eq_true] at h2; exact of_decide_eq_true h2.1
      rw [dn_go (p := (fun x => ltInt d1[a]! x)) (by omega) h59] at hsc
      refine wp_skip ?_
      refine wp_block ?_
      refine flowT (s11.keep (sc 0 rfl (sc 1 rfl (sc 9 rfl (sc 10 rfl (sc 46 rfl (sc 47 rfl (sc 48 rfl (sc 49 rfl (sc 50 rfl (sc 51 rfl (sc 52 rfl (sc 53 rfl (sc 54 rfl (sc 55 rfl (sc 56 rfl (sc 57 rfl (sc 58 rfl (sc 59 rfl sn))))))))))))))))))) (by kernel_rfl) (cc rfl (p_move g0 (od rfl id))
          (cc rfl (p_binC (m' := ((j - 1 : Nat) : Int)) (fun _ => by rw [IntKind.wrap_i64]; omega) g0 (od rfl id) (oc _) b_sub_3)
          (cc rfl (p_assign g0 (od rfl id)) cn))) fun a12 w12 b12 s12 => ?_
      have z12 := z11.below b12
      have hD := hD.below b12
      exact ⟨j - 1, by omega, by omega, hsc, hD, z12, s12.to _ ⟨rfl, rfl, rfl, rfl, True.intro⟩⟩
    · -- false
      rw [dn_end (p := (fun x => ltInt d1[a]! x)) h59] at hsc
      subst hsc
      refine wp_exit ?_
      refine wp_seq ?_
      refine wp_seq ?_
      refine flowC mixed (s11.keep (sc 0 rfl (sc 1 rfl (sc 9 rfl (sc 10 rfl (sc 46 rfl (sc 47 rfl (sc 48 rfl (sc 49 rfl (sc 50 rfl (sc 51 rfl (sc 52 rfl (sc 53 rfl (sc 54 rfl (sc 55 rfl (sc 56 rfl (sc 57 rfl (sc 58 rfl (sc 59 rfl sn))))))))))))))))))) (by kernel_rfl) (by kernel_rfl) (cc rfl (p_move g0 (od rfl id))
          (cc rfl (p_move g0 (od rfl id))
          (cc rfl (p_bin g0 (od rfl id) (od rfl id) b_gtr_3) cn))) fun a13 w13 b13 s13 => ?_
      have z13 := z11.below b13
      have hD := hD.below b13
      refine s13.cond 64 rfl (fun h64 => ?_) (fun h64 => ?_)
      · -- true
        have hgt : i > j := by have := of_decide_eq_true h64; (try dsimp only at this); omega
        rw [if_pos hgt] at heq
        subst heq
        refine wp_exit ?_
        refine wp_seq ?_
        refine flowC mixed (s13.keep (sc 0 rfl (sc 1 rfl (sc 9 rfl (sc 10 rfl sn))))) (by kernel_rfl) (by kernel_rfl) (cc rfl (p_move g0 (od rfl id))
            (cc rfl (p_assign g0 (od rfl id)) cn)) fun a14 w14 b14 s14 => ?_
        have z14 := z13.below b14
        have hD := hD.below b14
        exact wp_ret (ret_o (fn := Try.f84) (R := fun v w' => ∃ t : Nat × Array Int, partitionEqual ltInt d a b pv = t ∧ v = .int .i64 (t.1 : Int) ∧ RowD w' g cap n t.2 ∧ OnlyB (fun i => i = g) w w') s14 8 rfl rfl ⟨_, hTL, rfl, hD, z14⟩)
      · -- false
        have hgt : ¬ i > j := by have := of_decide_eq_false h64; (try dsimp only at this); omega
        rw [if_neg hgt] at heq
        refine wp_skip ?_
        refine wp_seq ?_
        refine flowD 13 77 72 (i := i) (z := d1[j]!) (vv 0 rfl (vv 1 rfl (vv 9 rfl (vv 10 rfl vn)))) (by omega) s13 hD ⟨_, _, _, rfl⟩ (by kernel_rfl) (by kernel_rfl) (lc rfl (p_move g0 (od rfl id))
            (lc rfl (p_move g0 (od rfl id))
            (lc rfl (p_move g0 (od rfl id))
            (lc rfl (p_move g0 (od rfl id))
            (lc rfl (p_move g0 (od rfl id))
            (lc rfl (p_move g0 (od rfl id))
            (lc rfl (p_idxVD (i := j) (by omega) g0 (od rfl id) (od rfl id))
            (ll rfl (p_ldL (i := j) (by omega) g0 (od rfl id))
            (lc rfl (p_move g0 (od rfl id))
            (lc rfl (p_move g0 (od rfl id))
            (lc rfl (p_idxVD (i := i) (by omega) g0 (od rfl id) (od rfl id))
            (ll rfl (p_ldL (i := i) (by omega) g0 (od rfl id))
            (lc rfl (p_idxVD (i := i) (by omega) g0 (od rfl id) (od rfl id)) ln))))))))))))) (by kernel_rfl) rfl rfl (vv 0 rfl (vv 1 rfl (vv 9 rfl (vv 10 rfl (vv 67 rfl (vv 68 rfl (vv 76 rfl vn))))))) fun a15 w15 hD gS s15 => ?_
        have z15 := z13.grown gS (fun x _ e => by injection e with e; exact e.symm)
        refine chainK 1 (cc rfl (p_idxVD (i := j) (by omega) g0 (od rfl id) (od rfl id)) cn) (by kernel_rfl) s15 fun a16 w16 b16 s16 => ?_
        have z16 := z15.below b16
        have hD := hD.below b16
        show wpList _ _ _ (_ :: _) _ _
        refine storeD_on (i := j) (x := d1[i]!) s16 rfl rfl rfl (s16.get 78 rfl) (s16.get 76 rfl) hD (by omega) (vv 0 rfl (vv 1 rfl (vv 9 rfl (vv 10 rfl vn)))) fun a17 w17 hD gS s17 => ?_
        have z17 := z16.grown gS (fun x _ e => by injection e with e; exact e.symm)
        have hD : RowD w17 g cap n (swp d1 i j) := hD
        refine wpList_done ?_
        refine wp_seq ?_
        refine flowT (s17.keep (sc 0 rfl (sc 1 rfl (sc 9 rfl (sc 10 rfl sn))))) (by kernel_rfl) (cc rfl (p_move g0 (od rfl id))
            (cc rfl (p_binC (m' := ((i + 1 : Nat) : Int)) (fun _ => by rw [IntKind.wrap_i64]; omega) g0 (od rfl id) (oc _) b_add_3)
            (cc rfl (p_assign g0 (od rfl id)) cn))) fun a18 w18 b18 s18 => ?_
        have z18 := z17.below b18
        have hD := hD.below b18
        refine flowT (s18.keep (sc 0 rfl (sc 1 rfl (sc 9 rfl (sc 10 rfl (sc 79 rfl (sc 80 rfl sn))))))) (by kernel_rfl) (cc rfl (p_move g0 (od rfl id))
            (cc rfl (p_binC (m' := ((j - 1 : Nat) : Int)) (fun _ => by rw [IntKind.wrap_i64]; omega) g0 (od rfl id) (oc _) b_sub_3)
            (cc rfl (p_assign g0 (od rfl id)) cn))) fun a19 w19 b19 s19 => ?_
        have z19 := z18.below b19
        have hD := hD.below b19
        exact ⟨j - 1 + 1 - (i + 1), by omega, i + 1, j - 1, _, rfl, by omega, by omega, by omega, hD, heq, z19, s19.to _ ⟨rfl, rfl, rfl, rfl, True.intro⟩⟩
set_option maxRecDepth 100000 in
/-- partitionOrdered at uint64. -/
theorem cPar {w : World} {g cap n : Nat} {d : Array Int} {a b pv : Nat} (hD : RowD w g cap n d) (hn : n < 4611686018427387904) (hap : a ≤ pv) (hpb : pv < b) (hb : b ≤ n) : Calls Try.prog 85 #[slD g n cap, .int .i64 (a : Int), .int .i64 (b : Int), .int .i64 (pv : Int)] w fun e w' => ∃ v, e = .returned v ∧ ∃ t : Nat × Bool × Array Int, partition ltInt d a b pv = t ∧ v = .tuple #[.int .i64 (t.1 : Int), .bool t.2.1] ∧ RowD w' g cap n t.2.2 ∧ OnlyB (fun i => i = g) w w' := by
  have z0 : OnlyB (fun i => i = g) w w := OnlyB.refl _ _
  go_enter Try.func85, Try.ntmps85
  refine wp_seq ?_
  refine flowC mixed (st0 (U := False) (N := 168) (e := [(0, true, .val (slD g n cap)), (1, true, .val (.int .i64 (a : Int))), (2, true, .val (.int .i64 (b : Int))), (3, true, .val (.int .i64 (pv : Int)))]) (F := noF) rfl rfl (fok_no _ _) ⟨⟨rfl, rfl⟩, ⟨⟨rfl, rfl⟩, ⟨⟨rfl, rfl⟩, ⟨⟨rfl, rfl⟩, True.intro⟩⟩⟩⟩) (by kernel_rfl) (by kernel_rfl) (cc rfl (p_assign g0 (oc _))
      (cc rfl (p_assign g0 (oc _)) cn)) fun a1 w1 b1 s1 => ?_
  have z1 := z0.below b1
  have hD := hD.below b1
  refine wp_seq ?_
  obtain ⟨D, hD0⟩ : ∃ D, swp d a pv = D := ⟨_, rfl⟩
  refine flowD 13 24 19 (i := a) (z := d[pv]!) (vv 0 rfl (vv 1 rfl (vv 2 rfl (vv 3 rfl (vv 8 rfl (vv 9 rfl vn)))))) (by omega) s1 hD ⟨_, _, _, rfl⟩ (by kernel_rfl) (by kernel_rfl) (lc rfl (p_move g0 (od rfl id))
      (lc rfl (p_move g0 (od rfl id))
      (lc rfl (p_move g0 (od rfl id))
      (lc rfl (p_move g0 (od rfl id))
      (lc rfl (p_move g0 (od rfl id))
      (lc rfl (p_move g0 (od rfl id))
      (lc rfl (p_idxVD (i := pv) (by omega) g0 (od rfl id) (od rfl id))
      (ll rfl (p_ldL (i := pv) (by omega) g0 (od rfl id))
      (lc rfl (p_move g0 (od rfl id))
      (lc rfl (p_move g0 (od rfl id))
      (lc rfl (p_idxVD (i := a) (by omega) g0 (od rfl id) (od rfl id))
      (ll rfl (p_ldL (i := a) (by omega) g0 (od rfl id))
      (lc rfl (p_idxVD (i := a) (by omega) g0 (od rfl id) (od rfl id)) ln))))))))))))) (by kernel_rfl) rfl rfl (vv 0 rfl (vv 1 rfl (vv 2 rfl (vv 8 rfl (vv 9 rfl (vv 14 rfl (vv 15 rfl (vv 23 rfl vn)))))))) fun a2 w2 hD gS s2 => ?_
  have z2 := z1.grown gS (fun x _ e => by injection e with e; exact e.symm)
  refine chainK 1 (cc rfl (p_idxVD (i := pv) (by omega) g0 (od rfl id) (od rfl id)) cn) (by kernel_rfl) s2 fun a3 w3 b3 s3 => ?_
  have z3 := z2.below b3
  have hD := hD.below b3
  show wpList _ _ _ (_ :: _) _ _
  refine storeD_on (i := pv) (x := d[a]!) s3 rfl rfl rfl (s3.get 25 rfl) (s3.get 23 rfl) hD (by omega) (vv 0 rfl (vv 1 rfl (vv 2 rfl (vv 8 rfl (vv 9 rfl vn))))) fun a4 w4 hD gS s4 => ?_
  have z4 := z3.grown gS (fun x _ e => by injection e with e; exact e.symm)
  have hD : RowD w4 g cap n (swp d a pv) := hD
  refine wpList_done ?_
  refine wp_seq ?_
  refine flowC mixed (s4.keep (sc 0 rfl (sc 1 rfl (sc 2 rfl (sc 8 rfl (sc 9 rfl sn)))))) (by kernel_rfl) (by kernel_rfl) (cc rfl (p_move g0 (od rfl id))
      (cc rfl (p_binC (m' := ((a + 1 : Nat) : Int)) (fun _ => by rw [IntKind.wrap_i64]; omega) g0 (od rfl id) (oc _) b_add_3)
      (cc rfl (p_move g0 (od rfl id))
      (cc rfl (p_binC (m' := ((b - 1 : Nat) : Int)) (fun _ => by rw [IntKind.wrap_i64]; omega) g0 (od rfl id) (oc _) b_sub_3)
      (cc rfl (p_assign g0 (od rfl id))
      (cc rfl (p_assign g0 (od rfl id)) cn)))))) fun a5 w5 b5 s5 => ?_
  have z5 := z4.below b5
  have hD := hD.below b5
  refine wp_seq ?_
  refine wp_block ?_
  rw [show swp d a pv = D from hD0] at hD
  obtain ⟨I, hI1⟩ : ∃ I, scanUp (fun x => ltInt x D[a]!) D (b - 1) (a + 1) = I := ⟨_, rfl⟩
  obtain ⟨J, hJ1⟩ : ∃ J, scanDown (fun x => !ltInt x D[a]!) D I (b - 1) = J := ⟨_, rfl⟩
  have hIg : a + 1 ≤ I := by rw [← hI1]; exact Go.Sort.scanUp_ge _ _ _ _
  have hJg : J ≤ b - 1 := by rw [← hJ1]; exact Go.Sort.scanDown_le _ _ _ _
  have hI2 := hI1
  have hJ2 := hJ1
  have st0 : StE False 168 [(0, true, .val (slD g n cap)), (1, true, .val (.int .i64 (a : Int))), (11, true, .int .i64 ((b - 1 : Nat) : Int)), (10, true, .int .i64 ((a + 1) : Nat))] noF _ _ := s5.to _ ⟨rfl, rfl, rfl, rfl, True.intro⟩
  refine wp_loopK (fun k ac wr => ∃ i, k = (b - 1) + 1 - i ∧ 1 ≤ i ∧ i ≤ b ∧ scanUp (fun x => ltInt x D[a]!) D (b - 1) i = I ∧ RowD wr g cap n D ∧ OnlyB (fun i => i = g) w wr ∧ StE False 168 [(0, true, .val (slD g n cap)), (1, true, .val (.int .i64 (a : Int))), (11, true, .int .i64 ((b - 1 : Nat) : Int)), (10, true, .int .i64 (i : Int))] noF ac wr) ((b - 1) + 1 - (a + 1)) ⟨(a + 1), rfl, by omega, by omega, hI1, hD, z5, st0⟩ fun k a6 w6 hI => ?_
  obtain ⟨i, rfl, h1i, hib, hsc, hD, z6, s6⟩ := hI
  refine wp_seq ?_
  refine wp_seq ?_
  have s6 := s6.more 0 (y := .rowD g n cap D) (at_rowD hD (s6.get 0 rfl))
  refine flowC mixed (s6.keep (sc 0 rfl (sc 1 rfl (sc 10 rfl (sc 11 rfl sn))))) (by kernel_rfl) (by kernel_rfl) (cc rfl (p_move g0 (od rfl id))
      (cc rfl (p_move g0 (od rfl id))
      (cc rfl (p_bin g0 (od rfl id) (od rfl id) b_leq_3)
      (cc rfl (p_move g0 (od rfl id))
      (cc rfl (p_move (g1 rfl rfl) (od rfl (fun _ => rfl)))
      (cc rfl (p_move (g1 rfl rfl) (od rfl (fun _ => rfl)))
      (cc rfl (p_idxD (i := i) (fun h => by simp at h; omega) (g1 rfl rfl) (od rfl id) (od rfl id))
      (cc rfl (p_ldD (g1 rfl rfl) (od rfl id))
      (cc rfl (p_move (g1 rfl rfl) (od rfl (fun _ => rfl)))
      (cc rfl (p_move (g1 rfl rfl) (od rfl (fun _ => rfl)))
      (cc rfl (p_idxD (i := a) (fun h => by simp at h; omega) (g1 rfl rfl) (od rfl id) (od rfl id))
      (cc rfl (p_ldD (g1 rfl rfl) (od rfl id))
      (cc rfl (p_call 60 (g1 rfl rfl) (ox (od rfl id) (ox (od rfl id) ox0)) (fun _ _ => by kernel_rfl) f60)
      (cc rfl (p_and g0 (od rfl id) (od rfl id)) cn)))))))))))))) fun a7 w7 b7 s7 => ?_
  have z7 := z6.below b7
  have hD := hD.below b7
  have s7 := s7.more 0 (y := .val (slD g n cap)) (s7.get 0 rfl).1
  refine s7.cond 43 rfl (fun h43 => ?_) (fun h43 => ?_)
  · -- true
    have hle : ((i : Nat) : Int) ≤ (((b - 1) : Nat) : Int) := by have h2 := h43; rw [Bool.and_eq_true] at h2; exact of_decide_eq_true h2.1
    rw [up_go (p := (fun x => ltInt x D[a]!)) h43] at hsc
    refine wp_skip ?_
    refine wp_block ?_
    refine flowT (s7.keep (sc 0 rfl (sc 1 rfl (sc 10 rfl (sc 11 rfl (sc 30 rfl (sc 31 rfl (sc 32 rfl (sc 33 rfl (sc 34 rfl (sc 35 rfl (sc 36 rfl (sc 37 rfl (sc 38 rfl (sc 39 rfl (sc 40 rfl (sc 41 rfl (sc 42 rfl (sc 43 rfl sn))))))))))))))))))) (by kernel_rfl) (cc rfl (p_move g0 (od rfl id))
        (cc rfl (p_binC (m' := ((i + 1 : Nat) : Int)) (fun _ => by rw [IntKind.wrap_i64]; omega) g0 (od rfl id) (oc _) b_add_3)
        (cc rfl (p_assign g0 (od rfl id)) cn))) fun a8 w8 b8 s8 => ?_
    have z8 := z7.below b8
    have hD := hD.below b8
    exact ⟨(b - 1) + 1 - (i + 1), by omega, i + 1, rfl, by omega, by omega, hsc, hD, z8, s8.to _ ⟨rfl, rfl, rfl, rfl, True.intro⟩⟩
  · -- false
    rw [up_end (p := (fun x => ltInt x D[a]!)) h43] at hsc
    subst hsc
    refine wp_exit ?_
    refine wp_seq ?_
    refine wp_block ?_
    have st0 : StE False 168 [(0, true, .val (slD g n cap)), (1, true, .val (.int .i64 (a : Int))), (10, true, .int .i64 (i : Int)), (11, true, .int .i64 ((b - 1) : Nat))] noF _ _ := s7.to _ ⟨rfl, rfl, rfl, rfl, True.intro⟩
    refine wp_loopK (fun k ac wr => k < b ∧ scanDown (fun x => !ltInt x D[a]!) D i k = J ∧ RowD wr g cap n D ∧ OnlyB (fun i => i = g) w wr ∧ StE False 168 [(0, true, .val (slD g n cap)), (1, true, .val (.int .i64 (a : Int))), (10, true, .int .i64 (i : Int)), (11, true, .int .i64 (k : Int))] noF ac wr) ((b - 1)) ⟨by omega, hJ1, hD, z7, st0⟩ fun j a9 w9 hI => ?_
    obtain ⟨hjb, hsc, hD, z9, s9⟩ := hI
    refine wp_seq ?_
    refine wp_seq ?_
    have s9 := s9.more 0 (y := .rowD g n cap D) (at_rowD hD (s9.get 0 rfl))
    refine flowC mixed (s9.keep (sc 0 rfl (sc 1 rfl (sc 10 rfl (sc 11 rfl sn))))) (by kernel_rfl) (by kernel_rfl) (cc rfl (p_move g0 (od rfl id))
        (cc rfl (p_move g0 (od rfl id))
        (cc rfl (p_bin g0 (od rfl id) (od rfl id) b_leq_3)
        (cc rfl (p_move g0 (od rfl id))
        (cc rfl (p_move (g1 rfl rfl) (od rfl (fun _ => rfl)))
        (cc rfl (p_move (g1 rfl rfl) (od rfl (fun _ => rfl)))
        (cc rfl (p_idxD (i := j) (fun h => by simp at h; omega) (g1 rfl rfl) (od rfl id) (od rfl id))
        (cc rfl (p_ldD (g1 rfl rfl) (od rfl id))
        (cc rfl (p_move (g1 rfl rfl) (od rfl (fun _ => rfl)))
        (cc rfl (p_move (g1 rfl rfl) (od rfl (fun _ => rfl)))
        (cc rfl (p_idxD (i := a) (fun h => by simp at h; omega) (g1 rfl rfl) (od rfl id) (od rfl id))
        (cc rfl (p_ldD (g1 rfl rfl) (od rfl id))
        (cc rfl (p_call 60 (g1 rfl rfl) (ox (od rfl id) (ox (od rfl id) ox0)) (fun _ _ => by kernel_rfl) f60)
        (cc rfl (p_not (g1 rfl rfl) (od rfl id))
        (cc rfl (p_and g0 (od rfl id) (od rfl id)) cn))))))))))))))) fun a10 w10 b10 s10 => ?_
    have z10 := z9.below b10
    have hD := hD.below b10
    have s10 := s10.more 0 (y := .val (slD g n cap)) (s10.get 0 rfl).1
    refine s10.cond 60 rfl (fun h60 => ?_) (fun h60 => ?_)
    · -- true
      have hle : ((i : Nat) : Int) ≤ ((j : Nat) : Int) := by have h2 := h60; rw [Bool.and_eq_true] at h2; exact of_decide_eq_true h2.1
      rw [dn_go (p := (fun x => !ltInt x D[a]!)) (by omega) h60] at hsc
      refine wp_skip ?_
      refine wp_block ?_
      refine flowT (s10.keep (sc 0 rfl (sc 1 rfl (sc 10 rfl (sc 11 rfl (sc 46 rfl (sc 47 rfl (sc 48 rfl (sc 49 rfl (sc 50 rfl (sc 51 rfl (sc 52 rfl (sc 53 rfl (sc 54 rfl (sc 55 rfl (sc 56 rfl (sc 57 rfl (sc 58 rfl (sc 59 rfl (sc 60 rfl sn)))))))))))))))))))) (by kernel_rfl) (cc rfl (p_move g0 (od rfl id))
          (cc rfl (p_binC (m' := ((j - 1 : Nat) : Int)) (fun _ => by rw [IntKind.wrap_i64]; omega) g0 (od rfl id) (oc _) b_sub_3)
          (cc rfl (p_assign g0 (od rfl id)) cn))) fun a11 w11 b11 s11 => ?_
      have z11 := z10.below b11
      have hD := hD.below b11
      exact ⟨j - 1, by omega, by omega, hsc, hD, z11, s11.to _ ⟨rfl, rfl, rfl, rfl, True.intro⟩⟩
    · -- false
      rw [dn_end (p := (fun x => !ltInt x D[a]!)) h60] at hsc
      subst hsc
      refine wp_exit ?_
      refine wp_seq ?_
      refine wp_seq ?_
      refine flowC mixed (s10.keep (sc 0 rfl (sc 1 rfl (sc 10 rfl (sc 11 rfl sn))))) (by kernel_rfl) (by kernel_rfl) (cc rfl (p_move g0 (od rfl id))
          (cc rfl (p_move g0 (od rfl id))
          (cc rfl (p_bin g0 (od rfl id) (od rfl id) b_gtr_3) cn))) fun a12 w12 b12 s12 => ?_
      have z12 := z10.below b12
      have hD := hD.below b12
      refine s12.cond 65 rfl (fun h65 => ?_) (fun h65 => ?_)
      · -- true
        have hgt : i > j := by have := of_decide_eq_true h65; (try dsimp only at this); omega
        refine wp_seq ?_
        refine flowD 13 78 73 (i := j) (z := D[a]!) (vv 0 rfl (vv 1 rfl (vv 10 rfl (vv 11 rfl vn)))) (by omega) s12 hD ⟨_, _, _, rfl⟩ (by kernel_rfl) (by kernel_rfl) (lc rfl (p_move g0 (od rfl id))
            (lc rfl (p_move g0 (od rfl id))
            (lc rfl (p_move g0 (od rfl id))
            (lc rfl (p_move g0 (od rfl id))
            (lc rfl (p_move g0 (od rfl id))
            (lc rfl (p_move g0 (od rfl id))
            (lc rfl (p_idxVD (i := a) (by omega) g0 (od rfl id) (od rfl id))
            (ll rfl (p_ldL (i := a) (by omega) g0 (od rfl id))
            (lc rfl (p_move g0 (od rfl id))
            (lc rfl (p_move g0 (od rfl id))
            (lc rfl (p_idxVD (i := j) (by omega) g0 (od rfl id) (od rfl id))
            (ll rfl (p_ldL (i := j) (by omega) g0 (od rfl id))
            (lc rfl (p_idxVD (i := j) (by omega) g0 (od rfl id) (od rfl id)) ln))))))))))))) (by kernel_rfl) rfl rfl (vv 0 rfl (vv 1 rfl (vv 10 rfl (vv 11 rfl (vv 68 rfl (vv 69 rfl (vv 77 rfl vn))))))) fun a13 w13 hD gS s13 => ?_
        have z13 := z12.grown gS (fun x _ e => by injection e with e; exact e.symm)
        refine chainK 1 (cc rfl (p_idxVD (i := a) (by omega) g0 (od rfl id) (od rfl id)) cn) (by kernel_rfl) s13 fun a14 w14 b14 s14 => ?_
        have z14 := z13.below b14
        have hD := hD.below b14
        show wpList _ _ _ (_ :: _) _ _
        refine storeD_on (i := a) (x := D[j]!) s14 rfl rfl rfl (s14.get 79 rfl) (s14.get 77 rfl) hD (by omega) (vv 0 rfl (vv 1 rfl (vv 10 rfl (vv 11 rfl vn)))) fun a15 w15 hD gS s15 => ?_
        have z15 := z14.grown gS (fun x _ e => by injection e with e; exact e.symm)
        have hD : RowD w15 g cap n (swp D j a) := hD
        refine wpList_done ?_
        refine wp_seq ?_
        refine flowC mixed (s15.keep (sc 0 rfl (sc 1 rfl (sc 10 rfl (sc 11 rfl sn))))) (by kernel_rfl) (by kernel_rfl) (cc rfl (p_move g0 (od rfl id))
            (cc rfl (p_assign g0 (od rfl id))
            (cc rfl (p_assign g0 (oc _)) cn))) fun a16 w16 b16 s16 => ?_
        have z16 := z15.below b16
        have hD := hD.below b16
        exact wp_ret (ret_o2 (fn := Try.f85) (R := fun v w' => ∃ t : Nat × Bool × Array Int, partition ltInt d a b pv = t ∧ v = .tuple #[.int .i64 (t.1 : Int), .bool t.2.1] ∧ RowD w' g cap n t.2.2 ∧ OnlyB (fun i => i = g) w w') s16 8 9 rfl rfl rfl ⟨_, part_one hD0 hI2 hJ2 hgt, rfl, hD, z16⟩)
      · -- false
        have hgt : ¬ i > j := by have := of_decide_eq_false h65; (try dsimp only at this); omega
        refine wp_skip ?_
        refine wp_seq ?_
        refine flowD 13 93 88 (i := i) (z := D[j]!) (vv 0 rfl (vv 1 rfl (vv 10 rfl (vv 11 rfl vn)))) (by omega) s12 hD ⟨_, _, _, rfl⟩ (by kernel_rfl) (by kernel_rfl) (lc rfl (p_move g0 (od rfl id))
            (lc rfl (p_move g0 (od rfl id))
            (lc rfl (p_move g0 (od rfl id))
            (lc rfl (p_move g0 (od rfl id))
            (lc rfl (p_move g0 (od rfl id))
            (lc rfl (p_move g0 (od rfl id))
            (lc rfl (p_idxVD (i := j) (by omega) g0 (od rfl id) (od rfl id))
            (ll rfl (p_ldL (i := j) (by omega) g0 (od rfl id))
            (lc rfl (p_move g0 (od rfl id))
            (lc rfl (p_move g0 (od rfl id))
            (lc rfl (p_idxVD (i := i) (by omega) g0 (od rfl id) (od rfl id))
            (ll rfl (p_ldL (i := i) (by omega) g0 (od rfl id))
            (lc rfl (p_idxVD (i := i) (by omega) g0 (od rfl id) (od rfl id)) ln))))))))))))) (by kernel_rfl) rfl rfl (vv 0 rfl (vv 1 rfl (vv 10 rfl (vv 11 rfl (vv 83 rfl (vv 84 rfl (vv 92 rfl vn))))))) fun a17 w17 hD gS s17 => ?_
        have z17 := z12.grown gS (fun x _ e => by injection e with e; exact e.symm)
        refine chainK 1 (cc rfl (p_idxVD (i := j) (by omega) g0 (od rfl id) (od rfl id)) cn) (by kernel_rfl) s17 fun a18 w18 b18 s18 => ?_
        have z18 := z17.below b18
        have hD := hD.below b18
        show wpList _ _ _ (_ :: _) _ _
        refine storeD_on (i := j) (x := D[i]!) s18 rfl rfl rfl (s18.get 94 rfl) (s18.get 92 rfl) hD (by omega) (vv 0 rfl (vv 1 rfl (vv 10 rfl (vv 11 rfl vn)))) fun a19 w19 hD gS s19 => ?_
        have z19 := z18.grown gS (fun x _ e => by injection e with e; exact e.symm)
        have hD : RowD w19 g cap n (swp D i j) := hD
        refine wpList_done ?_
        refine wp_seq ?_
        refine flowT (s19.keep (sc 0 rfl (sc 1 rfl (sc 10 rfl (sc 11 rfl sn))))) (by kernel_rfl) (cc rfl (p_move g0 (od rfl id))
            (cc rfl (p_binC (m' := ((i + 1 : Nat) : Int)) (fun _ => by rw [IntKind.wrap_i64]; omega) g0 (od rfl id) (oc _) b_add_3)
            (cc rfl (p_assign g0 (od rfl id)) cn))) fun a20 w20 b20 s20 => ?_
        have z20 := z19.below b20
        have hD := hD.below b20
        refine wp_seq ?_
        refine flowT (s20.keep (sc 0 rfl (sc 1 rfl (sc 10 rfl (sc 11 rfl sn))))) (by kernel_rfl) (cc rfl (p_move g0 (od rfl id))
            (cc rfl (p_binC (m' := ((j - 1 : Nat) : Int)) (fun _ => by rw [IntKind.wrap_i64]; omega) g0 (od rfl id) (oc _) b_sub_3)
            (cc rfl (p_assign g0 (od rfl id)) cn))) fun a21 w21 b21 s21 => ?_
        have z21 := z20.below b21
        have hD := hD.below b21
        refine wp_seq ?_
        refine wp_block ?_
        obtain ⟨TL, hTL⟩ : ∃ TL, partLoop ltInt a (i + 1) (j - 1) (swp D i j) = TL := ⟨_, rfl⟩
        have hpt := part_two hD0 hI2 hJ2 hgt hTL
        refine wp_loopK (fun k ac wr => ∃ i j d', k = j + 1 - i ∧ 1 ≤ i ∧ i ≤ b ∧ j < b ∧ RowD wr g cap n d' ∧ partLoop ltInt a i j d' = TL ∧ OnlyB (fun i => i = g) w wr ∧ StE False 168 [(0, true, .val (slD g n cap)), (1, true, .val (.int .i64 (a : Int))), (10, true, .int .i64 (i : Int)), (11, true, .int .i64 (j : Int))] noF ac wr) (j - 1 + 1 - (i + 1)) ⟨i + 1, j - 1, _, rfl, by omega, by omega, by omega, hD, hTL, z21, s21.to _ ⟨rfl, rfl, rfl, rfl, True.intro⟩⟩ fun k a22 w22 hI => ?_
        clear hTL
        obtain ⟨i0, j0, d1, rfl, hi0, hib0, hj0, hD, heq, z22, s22⟩ := hI
        obtain ⟨I, hI1⟩ : ∃ I, scanUp (fun x => ltInt x d1[a]!) d1 j0 i0 = I := ⟨_, rfl⟩
        obtain ⟨J, hJ1⟩ : ∃ J, scanDown (fun x => !ltInt x d1[a]!) d1 I j0 = J := ⟨_, rfl⟩
        rw [Go.Sort.partLoop_eq, hI1, hJ1] at heq
        have hIg : i0 ≤ I := by rw [← hI1]; exact Go.Sort.scanUp_ge _ _ _ _
        have hJg : J ≤ j0 := by rw [← hJ1]; exact Go.Sort.scanDown_le _ _ _ _
        refine wp_block ?_
        refine wp_seq ?_
        refine wp_block ?_
        have st0 : StE False 168 [(0, true, .val (slD g n cap)), (1, true, .val (.int .i64 (a : Int))), (11, true, .int .i64 (j0 : Int)), (10, true, .int .i64 (i0 : Nat))] noF _ _ := s22.to _ ⟨rfl, rfl, rfl, rfl, True.intro⟩
        refine wp_loopK (fun k ac wr => ∃ i, k = j0 + 1 - i ∧ 1 ≤ i ∧ i ≤ b ∧ scanUp (fun x => ltInt x d1[a]!) d1 j0 i = I ∧ RowD wr g cap n d1 ∧ OnlyB (fun i => i = g) w wr ∧ StE False 168 [(0, true, .val (slD g n cap)), (1, true, .val (.int .i64 (a : Int))), (11, true, .int .i64 (j0 : Int)), (10, true, .int .i64 (i : Int))] noF ac wr) (j0 + 1 - i0) ⟨i0, rfl, by omega, by omega, hI1, hD, z22, st0⟩ fun k a23 w23 hI => ?_
        obtain ⟨i, rfl, h1i, hib, hsc, hD, z23, s23⟩ := hI
        refine wp_seq ?_
        refine wp_seq ?_
        have s23 := s23.more 0 (y := .rowD g n cap d1) (at_rowD hD (s23.get 0 rfl))
        refine flowC mixed (s23.keep (sc 0 rfl (sc 1 rfl (sc 10 rfl (sc 11 rfl sn))))) (by kernel_rfl) (by kernel_rfl) (cc rfl (p_move g0 (od rfl id))
            (cc rfl (p_move g0 (od rfl id))
            (cc rfl (p_bin g0 (od rfl id) (od rfl id) b_leq_3)
            (cc rfl (p_move g0 (od rfl id))
            (cc rfl (p_move (g1 rfl rfl) (od rfl (fun _ => rfl)))
            (cc rfl (p_move (g1 rfl rfl) (od rfl (fun _ => rfl)))
            (cc rfl (p_idxD (i := i) (fun h => by simp at h; omega) (g1 rfl rfl) (od rfl id) (od rfl id))
            (cc rfl (p_ldD (g1 rfl rfl) (od rfl id))
            (cc rfl (p_move (g1 rfl rfl) (od rfl (fun _ => rfl)))
            (cc rfl (p_move (g1 rfl rfl) (od rfl (fun _ => rfl)))
            (cc rfl (p_idxD (i := a) (fun h => by simp at h; omega) (g1 rfl rfl) (od rfl id) (od rfl id))
            (cc rfl (p_ldD (g1 rfl rfl) (od rfl id))
            (cc rfl (p_call 60 (g1 rfl rfl) (ox (od rfl id) (ox (od rfl id) ox0)) (fun _ _ => by kernel_rfl) f60)
            (cc rfl (p_and g0 (od rfl id) (od rfl id)) cn)))))))))))))) fun a24 w24 b24 s24 => ?_
        have z24 := z23.below b24
        have hD := hD.below b24
        have s24 := s24.more 0 (y := .val (slD g n cap)) (s24.get 0 rfl).1
        refine s24.cond 112 rfl (fun h112 => ?_) (fun h112 => ?_)
        · -- true
          have hle : ((i : Nat) : Int) ≤ ((j0 : Nat) : Int) := by have h2 := h112; rw [Bool.and_eq_true] at h2; exact of_decide_eq_true h2.1
          rw [up_go (p := (fun x => ltInt x d1[a]!)) h112] at hsc
          refine wp_skip ?_
          refine wp_block ?_
          refine flowT (s24.keep (sc 0 rfl (sc 1 rfl (sc 10 rfl (sc 11 rfl (sc 99 rfl (sc 100 rfl (sc 101 rfl (sc 102 rfl (sc 103 rfl (sc 104 rfl (sc 105 rfl (sc 106 rfl (sc 107 rfl (sc 108 rfl (sc 109 rfl (sc 110 rfl (sc 111 rfl (sc 112 rfl sn))))))))))))))))))) (by kernel_rfl) (cc rfl (p_move g0 (od rfl id))
              (cc rfl (p_binC (m' := ((i + 1 : Nat) : Int)) (fun _ => by rw [IntKind.wrap_i64]; omega) g0 (od rfl id) (oc _) b_add_3)
              (cc rfl (p_assign g0 (od rfl id)) cn))) fun a25 w25 b25 s25 => ?_
          have z25 := z24.below b25
          have hD := hD.below b25
          exact ⟨j0 + 1 - (i + 1), by omega, i + 1, rfl, by omega, by omega, hsc, hD, z25, s25.to _ ⟨rfl, rfl, rfl, rfl, True.intro⟩⟩
        · -- false
          rw [up_end (p := (fun x => ltInt x d1[a]!)) h112] at hsc
          subst hsc
          refine wp_exit ?_
          refine wp_seq ?_
          refine wp_block ?_
          have st0 : StE False 168 [(0, true, .val (slD g n cap)), (1, true, .val (.int .i64 (a : Int))), (10, true, .int .i64 (i : Int)), (11, true, .int .i64 (j0 : Nat))] noF _ _ := s24.to _ ⟨rfl, rfl, rfl, rfl, True.intro⟩
          refine wp_loopK (fun k ac wr => k < b ∧ scanDown (fun x => !ltInt x d1[a]!) d1 i k = J ∧ RowD wr g cap n d1 ∧ OnlyB (fun i => i = g) w wr ∧ StE False 168 [(0, true, .val (slD g n cap)), (1, true, .val (.int .i64 (a : Int))), (10, true, .int .i64 (i : Int)), (11, true, .int .i64 (k : Int))] noF ac wr) (j0) ⟨by omega, hJ1, hD, z24, st0⟩ fun j a26 w26 hI => ?_
          obtain ⟨hjb, hsc, hD, z26, s26⟩ := hI
          refine wp_seq ?_
          refine wp_seq ?_
          have s26 := s26.more 0 (y := .rowD g n cap d1) (at_rowD hD (s26.get 0 rfl))
          refine flowC mixed (s26.keep (sc 0 rfl (sc 1 rfl (sc 10 rfl (sc 11 rfl sn))))) (by kernel_rfl) (by kernel_rfl) (cc rfl (p_move g0 (od rfl id))
              (cc rfl (p_move g0 (od rfl id))
              (cc rfl (p_bin g0 (od rfl id) (od rfl id) b_leq_3)
              (cc rfl (p_move g0 (od rfl id))
              (cc rfl (p_move (g1 rfl rfl) (od rfl (fun _ => rfl)))
              (cc rfl (p_move (g1 rfl rfl) (od rfl (fun _ => rfl)))
              (cc rfl (p_idxD (i := j) (fun h => by simp at h; omega) (g1 rfl rfl) (od rfl id) (od rfl id))
              (cc rfl (p_ldD (g1 rfl rfl) (od rfl id))
              (cc rfl (p_move (g1 rfl rfl) (od rfl (fun _ => rfl)))
              (cc rfl (p_move (g1 rfl rfl) (od rfl (fun _ => rfl)))
              (cc rfl (p_idxD (i := a) (fun h => by simp at h; omega) (g1 rfl rfl) (od rfl id) (od rfl id))
              (cc rfl (p_ldD (g1 rfl rfl) (od rfl id))
              (cc rfl (p_call 60 (g1 rfl rfl) (ox (od rfl id) (ox (od rfl id) ox0)) (fun _ _ => by kernel_rfl) f60)
              (cc rfl (p_not (g1 rfl rfl) (od rfl id))
              (cc rfl (p_and g0 (od rfl id) (od rfl id)) cn))))))))))))))) fun a27 w27 b27 s27 => ?_
          have z27 := z26.below b27
          have hD := hD.below b27
          have s27 := s27.more 0 (y := .val (slD g n cap)) (s27.get 0 rfl).1
          refine s27.cond 129 rfl (fun h129 => ?_) (fun h129 => ?_)
          · -- true
            have hle : ((i : Nat) : Int) ≤ ((j : Nat) : Int) := by have h2 := h129; rw [Bool.and_eq_true] at h2; exact of_decide_eq_true h2.1
            rw [dn_go (p := (fun x => !ltInt x d1[a]!)) (by omega) h129] at hsc
            refine wp_skip ?_
            refine wp_block ?_
            refine flowT (s27.keep (sc 0 rfl (sc 1 rfl (sc 10 rfl (sc 11 rfl (sc 115 rfl (sc 116 rfl (sc 117 rfl (sc 118 rfl (sc 119 rfl (sc 120 rfl (sc 121 rfl (sc 122 rfl (sc 123 rfl (sc 124 rfl (sc 125 rfl (sc 126 rfl (sc 127 rfl (sc 128 rfl (sc 129 rfl sn)))))))))))))))))))) (by kernel_rfl) (cc rfl (p_move g0 (od rfl id))
                (cc rfl (p_binC (m' := ((j - 1 : Nat) : Int)) (fun _ => by rw [IntKind.wrap_i64]; omega) g0 (od rfl id) (oc _) b_sub_3)
                (cc rfl (p_assign g0 (od rfl id)) cn))) fun a28 w28 b28 s28 => ?_
            have z28 := z27.below b28
            have hD := hD.below b28
            exact ⟨j - 1, by omega, by omega, hsc, hD, z28, s28.to _ ⟨rfl, rfl, rfl, rfl, True.intro⟩⟩
          · -- false
            rw [dn_end (p := (fun x => !ltInt x d1[a]!)) h129] at hsc
            subst hsc
            refine wp_exit ?_
            refine wp_seq ?_
            refine wp_seq ?_
            refine flowC mixed (s27.keep (sc 0 rfl (sc 1 rfl (sc 10 rfl (sc 11 rfl (sc 115 rfl (sc 116 rfl (sc 117 rfl (sc 118 rfl (sc 119 rfl (sc 120 rfl (sc 121 rfl (sc 122 rfl (sc 123 rfl (sc 124 rfl (sc 125 rfl (sc 126 rfl (sc 127 rfl (sc 128 rfl (sc 129 rfl sn)))))))))))))))))))) (by kernel_rfl) (by kernel_rfl) (cc rfl (p_move g0 (od rfl id))
                (cc rfl (p_move g0 (od rfl id))
                (cc rfl (p_bin g0 (od rfl id) (od rfl id) b_gtr_3) cn))) fun a29 w29 b29 s29 => ?_
            have z29 := z27.below b29
            have hD := hD.below b29
            refine s29.cond 134 rfl (fun h134 => ?_) (fun h134 => ?_)
            · -- true
              have hgt : i > j := by have := of_decide_eq_true h134; (try dsimp only at this); omega
              rw [if_pos hgt] at heq
              subst heq
              refine wp_exit ?_
              refine wp_seq ?_
              refine flowD 13 165 160 (i := j) (z := d1[a]!) (vv 0 rfl (vv 1 rfl (vv 10 rfl (vv 11 rfl vn)))) (by omega) s29 hD ⟨_, _, _, rfl⟩ (by kernel_rfl) (by kernel_rfl) (lc rfl (p_move g0 (od rfl id))
                  (lc rfl (p_move g0 (od rfl id))
                  (lc rfl (p_move g0 (od rfl id))
                  (lc rfl (p_move g0 (od rfl id))
                  (lc rfl (p_move g0 (od rfl id))
                  (lc rfl (p_move g0 (od rfl id))
                  (lc rfl (p_idxVD (i := a) (by omega) g0 (od rfl id) (od rfl id))
                  (ll rfl (p_ldL (i := a) (by omega) g0 (od rfl id))
                  (lc rfl (p_move g0 (od rfl id))
                  (lc rfl (p_move g0 (od rfl id))
                  (lc rfl (p_idxVD (i := j) (by omega) g0 (od rfl id) (od rfl id))
                  (ll rfl (p_ldL (i := j) (by omega) g0 (od rfl id))
                  (lc rfl (p_idxVD (i := j) (by omega) g0 (od rfl id) (od rfl id)) ln))))))))))))) (by kernel_rfl) rfl rfl (vv 0 rfl (vv 1 rfl (vv 10 rfl (vv 11 rfl (vv 155 rfl (vv 156 rfl (vv 164 rfl vn))))))) fun a30 w30 hD gS s30 => ?_
              have z30 := z29.grown gS (fun x _ e => by injection e with e; exact e.symm)
              refine chainK 1 (cc rfl (p_idxVD (i := a) (by omega) g0 (od rfl id) (od rfl id)) cn) (by kernel_rfl) s30 fun a31 w31 b31 s31 => ?_
              have z31 := z30.below b31
              have hD := hD.below b31
              show wpList _ _ _ (_ :: _) _ _
              refine storeD_on (i := a) (x := d1[j]!) s31 rfl rfl rfl (s31.get 166 rfl) (s31.get 164 rfl) hD (by omega) (vv 0 rfl (vv 1 rfl (vv 10 rfl (vv 11 rfl vn)))) fun a32 w32 hD gS s32 => ?_
              have z32 := z31.grown gS (fun x _ e => by injection e with e; exact e.symm)
              have hD : RowD w32 g cap n (swp d1 j a) := hD
              refine wpList_done ?_
              refine wp_seq ?_
              refine flowC mixed (s32.keep (sc 0 rfl (sc 1 rfl (sc 10 rfl (sc 11 rfl sn))))) (by kernel_rfl) (by kernel_rfl) (cc rfl (p_move g0 (od rfl id))
                  (cc rfl (p_assign g0 (od rfl id))
                  (cc rfl (p_assign g0 (oc _)) cn))) fun a33 w33 b33 s33 => ?_
              have z33 := z32.below b33
              have hD := hD.below b33
              exact wp_ret (ret_o2 (fn := Try.f85) (R := fun v w' => ∃ t : Nat × Bool × Array Int, partition ltInt d a b pv = t ∧ v = .tuple #[.int .i64 (t.1 : Int), .bool t.2.1] ∧ RowD w' g cap n t.2.2 ∧ OnlyB (fun i => i = g) w w') s33 8 9 rfl rfl rfl ⟨_, hpt, rfl, hD, z33⟩)
            · -- false
              have hgt : ¬ i > j := by have := of_decide_eq_false h134; (try dsimp only at this); omega
              rw [if_neg hgt] at heq
              refine wp_skip ?_
              refine wp_seq ?_
              refine flowD 13 147 142 (i := i) (z := d1[j]!) (vv 0 rfl (vv 1 rfl (vv 10 rfl (vv 11 rfl vn)))) (by omega) s29 hD ⟨_, _, _, rfl⟩ (by kernel_rfl) (by kernel_rfl) (lc rfl (p_move g0 (od rfl id))
                  (lc rfl (p_move g0 (od rfl id))
                  (lc rfl (p_move g0 (od rfl id))
                  (lc rfl (p_move g0 (od rfl id))
                  (lc rfl (p_move g0 (od rfl id))
                  (lc rfl (p_move g0 (od rfl id))
                  (lc rfl (p_idxVD (i := j) (by omega) g0 (od rfl id) (od rfl id))
                  (ll rfl (p_ldL (i := j) (by omega) g0 (od rfl id))
                  (lc rfl (p_move g0 (od rfl id))
                  (lc rfl (p_move g0 (od rfl id))
                  (lc rfl (p_idxVD (i := i) (by omega) g0 (od rfl id) (od rfl id))
                  (ll rfl (p_ldL (i := i) (by omega) g0 (od rfl id))
                  (lc rfl (p_idxVD (i := i) (by omega) g0 (od rfl id) (od rfl id)) ln))))))))))))) (by kernel_rfl) rfl rfl (vv 0 rfl (vv 1 rfl (vv 10 rfl (vv 11 rfl (vv 137 rfl (vv 138 rfl (vv 146 rfl vn))))))) fun a34 w34 hD gS s34 => ?_
              have z34 := z29.grown gS (fun x _ e => by injection e with e; exact e.symm)
              refine chainK 1 (cc rfl (p_idxVD (i := j) (by omega) g0 (od rfl id) (od rfl id)) cn) (by kernel_rfl) s34 fun a35 w35 b35 s35 => ?_
              have z35 := z34.below b35
              have hD := hD.below b35
              show wpList _ _ _ (_ :: _) _ _
              refine storeD_on (i := j) (x := d1[i]!) s35 rfl rfl rfl (s35.get 148 rfl) (s35.get 146 rfl) hD (by omega) (vv 0 rfl (vv 1 rfl (vv 10 rfl (vv 11 rfl vn)))) fun a36 w36 hD gS s36 => ?_
              have z36 := z35.grown gS (fun x _ e => by injection e with e; exact e.symm)
              have hD : RowD w36 g cap n (swp d1 i j) := hD
              refine wpList_done ?_
              refine wp_seq ?_
              refine flowT (s36.keep (sc 0 rfl (sc 1 rfl (sc 10 rfl (sc 11 rfl sn))))) (by kernel_rfl) (cc rfl (p_move g0 (od rfl id))
                  (cc rfl (p_binC (m' := ((i + 1 : Nat) : Int)) (fun _ => by rw [IntKind.wrap_i64]; omega) g0 (od rfl id) (oc _) b_add_3)
                  (cc rfl (p_assign g0 (od rfl id)) cn))) fun a37 w37 b37 s37 => ?_
              have z37 := z36.below b37
              have hD := hD.below b37
              refine flowT (s37.keep (sc 0 rfl (sc 1 rfl (sc 10 rfl (sc 11 rfl (sc 149 rfl (sc 150 rfl sn))))))) (by kernel_rfl) (cc rfl (p_move g0 (od rfl id))
                  (cc rfl (p_binC (m' := ((j - 1 : Nat) : Int)) (fun _ => by rw [IntKind.wrap_i64]; omega) g0 (od rfl id) (oc _) b_sub_3)
                  (cc rfl (p_assign g0 (od rfl id)) cn))) fun a38 w38 b38 s38 => ?_
              have z38 := z37.below b38
              have hD := hD.below b38
              exact ⟨j - 1 + 1 - (i + 1), by omega, i + 1, j - 1, _, rfl, by omega, by omega, by omega, hD, heq, z38, s38.to _ ⟨rfl, rfl, rfl, rfl, True.intro⟩⟩

end Go.Proofs.Ytbeeiecbbmiojaa.Y

/- Ysi: slices.Sort at uint64: partialInsertionSort -/
namespace Go.Proofs.Ytbeeiecbbmiojaa.Y
open Go.RowKit Go.ChangeShapes Go.WideShapes Go.ChangeAt Go.ChangeMaps Go.MapKept

open Go.Sort (ltInt swp scanSorted shiftDown shiftUp partialIns partialInsertionSort fixDown fixUp partialIns_succ)
theorem ss_go {b i : Nat} {d : Array Int} (h : (decide ((i : Int) < (b : Int)) && !ltInt d[i]! d[i - 1]!) = true) : scanSorted ltInt d b i = scanSorted ltInt d b (i + 1) := by
  rw [Bool.and_eq_true, decide_eq_true_eq] at h
  rw [scanSorted, if_pos (by rw [Bool.and_eq_true, decide_eq_true_eq]; exact ⟨by omega, h.2⟩)]
theorem ss_end {b i : Nat} {d : Array Int} (h : (decide ((i : Int) < (b : Int)) && !ltInt d[i]! d[i - 1]!) = false) : scanSorted ltInt d b i = i := by
  rw [scanSorted, if_neg (fun h2 => by
    rw [Bool.and_eq_true, decide_eq_true_eq] at h2
    rw [h2.2, Bool.and_true, decide_eq_false_iff_not] at h
    omega)]
theorem shd_zero {d : Array Int} : shiftDown ltInt 0 d = d := rfl
theorem shd_stop {j : Nat} {d : Array Int} (hj : 1 ≤ j) (h : (!ltInt d[j]! d[j - 1]!) = true) : shiftDown ltInt j d = d := by
  cases j with
  | zero => omega
  | succ j =>
    rw [shiftDown, if_pos (by exact h)]
theorem shd_go {j : Nat} {d : Array Int} (hj : 1 ≤ j) (h : (!ltInt d[j]! d[j - 1]!) = false) : shiftDown ltInt j d = shiftDown ltInt (j - 1) (swp d j (j - 1)) := by
  cases j with
  | zero => omega
  | succ j =>
    rw [shiftDown, if_neg (fun h2 => by rw [show (!ltInt d[j + 1]! d[j]!) = false from h] at h2; cases h2)]
    rfl
theorem shu_end {b j : Nat} {d : Array Int} (h : ¬ j < b) : shiftUp ltInt b j d = d := by rw [shiftUp, if_neg h]
theorem shu_stop {b j : Nat} {d : Array Int} (hj : j < b) (h : (!ltInt d[j]! d[j - 1]!) = true) : shiftUp ltInt b j d = d := by rw [shiftUp, if_pos hj, if_pos h]
theorem shu_go {b j : Nat} {d : Array Int} (hj : j < b) (h : (!ltInt d[j]! d[j - 1]!) = false) : shiftUp ltInt b j d = shiftUp ltInt b (j + 1) (swp d j (j - 1)) := by rw [shiftUp, if_pos hj, if_neg (by rw [h]; simp)]
theorem pin_done {a b s : Nat} {d : Array Int} {i : Nat} (h : scanSorted ltInt d b i = b) : partialIns ltInt a b (s + 1) i d = (d, true) := by rw [partialIns_succ, if_pos h]
theorem pin_short {a b s I : Nat} {d : Array Int} {i : Nat} (h0 : scanSorted ltInt d b i = I) (h : ¬ I = b) (h2 : b - a < 50) : partialIns ltInt a b (s + 1) i d = (d, false) := by
  subst h0
  rw [partialIns_succ, if_neg h, if_pos h2]
theorem pin_go {a b s I : Nat} {d D2 D3 : Array Int} {i : Nat} (h0 : scanSorted ltInt d b i = I) (h : ¬ I = b) (h2 : ¬ b - a < 50) (h3 : fixDown ltInt a I (swp d I (I - 1)) = D2) (h4 : fixUp ltInt b I D2 = D3) : partialIns ltInt a b (s + 1) i d = partialIns ltInt a b s I D3 := by
  subst h0
  rw [partialIns_succ, if_neg h, if_neg h2, h3, h4]
theorem fd_yes {a i : Nat} {d : Array Int} (h : 2 ≤ i - a) : fixDown ltInt a i d = shiftDown ltInt (i - 1) d := by unfold fixDown; rw [if_pos h]
theorem fd_no {a i : Nat} {d : Array Int} (h : ¬ 2 ≤ i - a) : fixDown ltInt a i d = d := by unfold fixDown; rw [if_neg h]
theorem fu_yes {b i : Nat} {d : Array Int} (h : 2 ≤ b - i) : fixUp ltInt b i d = shiftUp ltInt b (i + 1) d := by unfold fixUp; rw [if_pos h]
theorem fu_no {b i : Nat} {d : Array Int} (h : ¬ 2 ≤ b - i) : fixUp ltInt b i d = d := by unfold fixUp; rw [if_neg h]
set_option maxRecDepth 100000 in
/-- partialInsertionSortOrdered at uint64. -/
theorem cPin {w : World} {g cap n : Nat} {d : Array Int} {a b : Nat} (hD : RowD w g cap n d) (hn : n < 4611686018427387904) (hab : a < b) (hb : b ≤ n) : Calls Try.prog 83 #[slD g n cap, .int .i64 (a : Int), .int .i64 (b : Int)] w fun e w' => ∃ v, e = .returned v ∧ ∃ t : Array Int × Bool, partialInsertionSort ltInt d a b = t ∧ v = .bool t.2 ∧ RowD w' g cap n t.1 ∧ OnlyB (fun i => i = g) w w' := by
  have z0 : OnlyB (fun i => i = g) w w := OnlyB.refl _ _
  go_enter Try.func83, Try.ntmps83
  refine wp_seq ?_
  refine flowC mixed (st0 (U := False) (N := 133) (e := [(0, true, .val (slD g n cap)), (1, true, .val (.int .i64 (a : Int))), (2, true, .val (.int .i64 (b : Int)))]) (F := noF) rfl rfl (fok_no _ _) ⟨⟨rfl, rfl⟩, ⟨⟨rfl, rfl⟩, ⟨⟨rfl, rfl⟩, True.intro⟩⟩⟩) (by kernel_rfl) (by kernel_rfl) (cc rfl (p_assign g0 (oc _)) cn) fun a1 w1 b1 s1 => ?_
  have z1 := z0.below b1
  have hD := hD.below b1
  refine wp_seq ?_
  refine flowC mixed (s1.keep (sc 0 rfl (sc 1 rfl (sc 2 rfl (sc 6 rfl sn))))) (by kernel_rfl) (by kernel_rfl) (cc rfl (p_move g0 (od rfl id))
      (cc rfl (p_binC (m' := ((a + 1 : Nat) : Int)) (fun _ => by rw [IntKind.wrap_i64]; omega) g0 (od rfl id) (oc _) b_add_3)
      (cc rfl (p_assign g0 (od rfl id)) cn))) fun a2 w2 b2 s2 => ?_
  have z2 := z1.below b2
  have hD := hD.below b2
  refine wp_seq ?_
  refine wp_seq ?_
  refine flowC mixed (s2.keep (sc 0 rfl (sc 1 rfl (sc 2 rfl (sc 6 rfl (sc 7 rfl sn)))))) (by kernel_rfl) (by kernel_rfl) (cc rfl (p_assign g0 (oc _)) cn) fun a3 w3 b3 s3 => ?_
  have z3 := z2.below b3
  have hD := hD.below b3
  refine wp_block ?_
  obtain ⟨TT, hTT⟩ : ∃ TT, partialIns ltInt a b 5 (a + 1) d = TT := ⟨_, rfl⟩
  refine wp_loopK (fun k ac wr => ∃ i q d', k = 5 - q ∧ q ≤ 5 ∧ a + 1 ≤ i ∧ i ≤ b ∧ RowD wr g cap n d' ∧ partialIns ltInt a b (5 - q) i d' = TT ∧ OnlyB (fun i => i = g) w wr ∧ StE False 133 [(0, true, .val (slD g n cap)), (1, true, .val (.int .i64 (a : Int))), (2, true, .val (.int .i64 (b : Int))), (7, true, .int .i64 (i : Int)), (8, true, .int .i64 (q : Int))] noF ac wr) 5 ⟨a + 1, 0, d, rfl, by omega, by omega, by omega, hD, hTT, z3, s3.to _ ⟨rfl, rfl, rfl, rfl, rfl, True.intro⟩⟩ fun k0 a4 w4 hI => ?_
  obtain ⟨i0, q, d1, rfl, hq, hai, hib, hD, heq, z4, s4⟩ := hI
  refine wp_seq ?_
  refine wp_seq ?_
  refine flowC mixed (s4.keep (sc 0 rfl (sc 1 rfl (sc 2 rfl (sc 7 rfl (sc 8 rfl sn)))))) (by kernel_rfl) (by kernel_rfl) (cc rfl (p_move g0 (od rfl id))
      (cc rfl (p_bin g0 (od rfl id) (oc _) b_lss_3) cn)) fun a5 w5 b5 s5 => ?_
  have z5 := z4.below b5
  have hD := hD.below b5
  refine s5.cond 14 rfl (fun h14 => ?_) (fun h14 => ?_)
  · -- true
    have hq5 : q < 5 := by have h2 := of_decide_eq_true h14; (try dsimp only at h2); omega
    rw [show 5 - q = (4 - q) + 1 by omega] at heq
    obtain ⟨I, hI1⟩ : ∃ I, scanSorted ltInt d1 b i0 = I := ⟨_, rfl⟩
    have hI0 := hI1
    refine wp_skip ?_
    refine wp_seq ?_
    refine wp_block ?_
    refine wp_seq ?_
    refine wp_block ?_
    refine wp_loopK (fun k ac wr => ∃ i, k = b - i ∧ a + 1 ≤ i ∧ i ≤ b ∧ scanSorted ltInt d1 b i = I ∧ RowD wr g cap n d1 ∧ OnlyB (fun i => i = g) w wr ∧ StE False 133 [(0, true, .val (slD g n cap)), (1, true, .val (.int .i64 (a : Int))), (2, true, .val (.int .i64 (b : Int))), (8, true, .int .i64 (q : Int)), (7, true, .int .i64 (i : Int))] noF ac wr) (b - i0) ⟨i0, rfl, by omega, by omega, hI1, hD, z5, s5.to _ ⟨rfl, rfl, rfl, rfl, rfl, True.intro⟩⟩ fun k a6 w6 hI => ?_
    obtain ⟨i, rfl, hai2, hib2, hsc, hD, z6, s6⟩ := hI
    refine wp_seq ?_
    refine wp_seq ?_
    have s6 := s6.more 0 (y := .rowD g n cap d1) (at_rowD hD (s6.get 0 rfl))
    refine flowC mixed (s6.keep (sc 0 rfl (sc 1 rfl (sc 2 rfl (sc 7 rfl (sc 8 rfl sn)))))) (by kernel_rfl) (by kernel_rfl) (cc rfl (p_move g0 (od rfl id))
        (cc rfl (p_move g0 (od rfl id))
        (cc rfl (p_bin g0 (od rfl id) (od rfl id) b_lss_3)
        (cc rfl (p_move g0 (od rfl id))
        (cc rfl (p_move (g1 rfl rfl) (od rfl (fun _ => rfl)))
        (cc rfl (p_move (g1 rfl rfl) (od rfl (fun _ => rfl)))
        (cc rfl (p_idxD (i := i) (fun h => by simp at h; omega) (g1 rfl rfl) (od rfl id) (od rfl id))
        (cc rfl (p_ldD (g1 rfl rfl) (od rfl id))
        (cc rfl (p_move (g1 rfl rfl) (od rfl (fun _ => rfl)))
        (cc rfl (p_move (g1 rfl rfl) (od rfl (fun _ => rfl)))
        (cc rfl (p_binC (m' := ((i - 1 : Nat) : Int)) (fun h => by simp at h; rw [IntKind.wrap_i64]; omega) (g1 rfl rfl) (od rfl id) (oc _) b_sub_3)
        (cc rfl (p_idxD (i := i - 1) (fun h => by simp at h; omega) (g1 rfl rfl) (od rfl id) (od rfl id))
        (cc rfl (p_ldD (g1 rfl rfl) (od rfl id))
        (cc rfl (p_call 60 (g1 rfl rfl) (ox (od rfl id) (ox (od rfl id) ox0)) (fun _ _ => by kernel_rfl) f60)
        (cc rfl (p_not (g1 rfl rfl) (od rfl id))
        (cc rfl (p_and g0 (od rfl id) (od rfl id)) cn)))))))))))))))) fun a7 w7 b7 s7 => ?_
    have z7 := z6.below b7
    have hD := hD.below b7
    have s7 := s7.more 0 (y := .val (slD g n cap)) (s7.get 0 rfl).1
    refine s7.cond 32 rfl (fun h32 => ?_) (fun h32 => ?_)
    · -- true
      have hlt : ((i : Nat) : Int) < ((b : Nat) : Int) := by have h2 := h32; rw [Bool.and_eq_true] at h2; exact of_decide_eq_true h2.1
      rw [ss_go h32] at hsc
      refine wp_skip ?_
      refine wp_block ?_
      refine flowT (s7.keep (sc 0 rfl (sc 1 rfl (sc 2 rfl (sc 7 rfl (sc 8 rfl (sc 17 rfl (sc 18 rfl (sc 19 rfl (sc 20 rfl (sc 21 rfl (sc 22 rfl (sc 23 rfl (sc 24 rfl (sc 25 rfl (sc 26 rfl (sc 27 rfl (sc 28 rfl (sc 29 rfl (sc 30 rfl (sc 31 rfl (sc 32 rfl sn)))))))))))))))))))))) (by kernel_rfl) (cc rfl (p_move g0 (od rfl id))
          (cc rfl (p_binC (m' := ((i + 1 : Nat) : Int)) (fun _ => by rw [IntKind.wrap_i64]; omega) g0 (od rfl id) (oc _) b_add_3)
          (cc rfl (p_assign g0 (od rfl id)) cn))) fun a8 w8 b8 s8 => ?_
      have z8 := z7.below b8
      have hD := hD.below b8
      exact ⟨b - (i + 1), by omega, i + 1, rfl, by omega, by omega, hsc, hD, z8, s8.to _ ⟨rfl, rfl, rfl, rfl, rfl, True.intro⟩⟩
    · -- false
      rw [ss_end h32] at hsc
      subst hsc
      refine wp_exit ?_
      refine wp_seq ?_
      refine wp_seq ?_
      refine flowC mixed (s7.keep (sc 0 rfl (sc 1 rfl (sc 2 rfl (sc 7 rfl (sc 8 rfl (sc 17 rfl (sc 18 rfl (sc 19 rfl (sc 20 rfl (sc 21 rfl (sc 22 rfl (sc 23 rfl (sc 24 rfl (sc 25 rfl (sc 26 rfl (sc 27 rfl (sc 28 rfl (sc 29 rfl (sc 30 rfl (sc 31 rfl (sc 32 rfl sn)))))))))))))))))))))) (by kernel_rfl) (by kernel_rfl) (cc rfl (p_move g0 (od rfl id))
          (cc rfl (p_move g0 (od rfl id))
          (cc rfl (p_bin g0 (od rfl id) (od rfl id) b_eql_3) cn))) fun a9 w9 b9 s9 => ?_
      have z9 := z7.below b9
      have hD := hD.below b9
      refine s9.cond 37 rfl (fun h37 => ?_) (fun h37 => ?_)
      · -- true
        have hie : i = b := by have h2 := eq_of_beq h37; omega
        rw [pin_done (hI0.trans hie)] at heq
        refine wp_seq ?_
        refine flowC mixed (s9.keep (sc 0 rfl (sc 1 rfl (sc 2 rfl (sc 7 rfl (sc 8 rfl (sc 17 rfl (sc 18 rfl (sc 19 rfl (sc 20 rfl (sc 21 rfl (sc 22 rfl (sc 23 rfl (sc 24 rfl (sc 25 rfl (sc 26 rfl (sc 27 rfl (sc 28 rfl (sc 29 rfl (sc 30 rfl (sc 31 rfl (sc 32 rfl (sc 35 rfl (sc 36 rfl (sc 37 rfl sn))))))))))))))))))))))))) (by kernel_rfl) (by kernel_rfl) (cc rfl (p_assign g0 (oc _)) cn) fun a10 w10 b10 s10 => ?_
        have z10 := z9.below b10
        have hD := hD.below b10
        exact wp_ret (ret_o (fn := Try.f83) (R := fun v w' => ∃ t : Array Int × Bool, partialInsertionSort ltInt d a b = t ∧ v = .bool t.2 ∧ RowD w' g cap n t.1 ∧ OnlyB (fun i => i = g) w w') s10 6 rfl rfl ⟨_, hTT.trans heq.symm, rfl, hD, z10⟩)
      · -- false
        have hne : ¬ i = b := by intro e; rw [e] at h37; simp at h37
        refine wp_skip ?_
        refine wp_seq ?_
        refine wp_seq ?_
        refine flowC mixed (s9.keep (sc 0 rfl (sc 1 rfl (sc 2 rfl (sc 7 rfl (sc 8 rfl (sc 17 rfl (sc 18 rfl (sc 19 rfl (sc 20 rfl (sc 21 rfl (sc 22 rfl (sc 23 rfl (sc 24 rfl (sc 25 rfl (sc 26 rfl (sc 27 rfl (sc 28 rfl (sc 29 rfl (sc 30 rfl (sc 31 rfl (sc 32 rfl (sc 35 rfl (sc 36 rfl (sc 37 rfl sn))))))))))))))))))))))))) (by kernel_rfl) (by kernel_rfl) (cc rfl (p_move g0 (od rfl id))
            (cc rfl (p_move g0 (od rfl id))
            (cc rfl (p_binC (m' := ((b - a : Nat) : Int)) (fun _ => by rw [IntKind.wrap_i64]; omega) g0 (od rfl id) (od rfl id) b_sub_3)
            (cc rfl (p_bin g0 (od rfl id) (oc _) b_lss_3) cn)))) fun a11 w11 b11 s11 => ?_
        have z11 := z9.below b11
        have hD := hD.below b11
        refine s11.cond 41 rfl (fun h41 => ?_) (fun h41 => ?_)
        · -- true
          have hs : b - a < 50 := by have h2 := of_decide_eq_true h41; (try dsimp only at h2); omega
          rw [pin_short hI0 hne hs] at heq
          refine wp_seq ?_
          refine flowC mixed (s11.keep (sc 0 rfl (sc 1 rfl (sc 2 rfl (sc 7 rfl (sc 8 rfl (sc 17 rfl (sc 18 rfl (sc 19 rfl (sc 20 rfl (sc 21 rfl (sc 22 rfl (sc 23 rfl (sc 24 rfl (sc 25 rfl (sc 26 rfl (sc 27 rfl (sc 28 rfl (sc 29 rfl (sc 30 rfl (sc 31 rfl (sc 32 rfl (sc 35 rfl (sc 36 rfl (sc 37 rfl (sc 38 rfl (sc 39 rfl (sc 40 rfl (sc 41 rfl sn))))))))))))))))))))))))))))) (by kernel_rfl) (by kernel_rfl) (cc rfl (p_assign g0 (oc _)) cn) fun a12 w12 b12 s12 => ?_
          have z12 := z11.below b12
          have hD := hD.below b12
          exact wp_ret (ret_o (fn := Try.f83) (R := fun v w' => ∃ t : Array Int × Bool, partialInsertionSort ltInt d a b = t ∧ v = .bool t.2 ∧ RowD w' g cap n t.1 ∧ OnlyB (fun i => i = g) w w') s12 6 rfl rfl ⟨_, hTT.trans heq.symm, rfl, hD, z12⟩)
        · -- false
          have hs : ¬ b - a < 50 := by have h2 := of_decide_eq_false h41; (try dsimp only at h2); omega
          refine wp_skip ?_
          refine wp_seq ?_
          refine flowD 15 56 51 (i := i) (z := d1[(i - 1)]!) (vv 0 rfl (vv 1 rfl (vv 2 rfl (vv 7 rfl (vv 8 rfl vn))))) (by omega) s11 hD ⟨_, _, _, rfl⟩ (by kernel_rfl) (by kernel_rfl) (lc rfl (p_move g0 (od rfl id))
              (lc rfl (p_move g0 (od rfl id))
              (lc rfl (p_move g0 (od rfl id))
              (lc rfl (p_move g0 (od rfl id))
              (lc rfl (p_binC (m' := ((i - 1 : Nat) : Int)) (fun _ => by rw [IntKind.wrap_i64]; omega) g0 (od rfl id) (oc _) b_sub_3)
              (lc rfl (p_move g0 (od rfl id))
              (lc rfl (p_move g0 (od rfl id))
              (lc rfl (p_binC (m' := ((i - 1 : Nat) : Int)) (fun _ => by rw [IntKind.wrap_i64]; omega) g0 (od rfl id) (oc _) b_sub_3)
              (lc rfl (p_idxVD (i := (i - 1)) (by omega) g0 (od rfl id) (od rfl id))
              (ll rfl (p_ldL (i := (i - 1)) (by omega) g0 (od rfl id))
              (lc rfl (p_move g0 (od rfl id))
              (lc rfl (p_move g0 (od rfl id))
              (lc rfl (p_idxVD (i := i) (by omega) g0 (od rfl id) (od rfl id))
              (ll rfl (p_ldL (i := i) (by omega) g0 (od rfl id))
              (lc rfl (p_idxVD (i := i) (by omega) g0 (od rfl id) (od rfl id)) ln))))))))))))))) (by kernel_rfl) rfl rfl (vv 0 rfl (vv 1 rfl (vv 2 rfl (vv 7 rfl (vv 8 rfl (vv 44 rfl (vv 46 rfl (vv 55 rfl vn)))))))) fun a13 w13 hD gS s13 => ?_
          have z13 := z11.grown gS (fun x _ e => by injection e with e; exact e.symm)
          refine chainK 1 (cc rfl (p_idxVD (i := (i - 1)) (by omega) g0 (od rfl id) (od rfl id)) cn) (by kernel_rfl) s13 fun a14 w14 b14 s14 => ?_
          have z14 := z13.below b14
          have hD := hD.below b14
          show wpList _ _ _ (_ :: _) _ _
          refine storeD_on (i := (i - 1)) (x := d1[i]!) s14 rfl rfl rfl (s14.get 57 rfl) (s14.get 55 rfl) hD (by omega) (vv 0 rfl (vv 1 rfl (vv 2 rfl (vv 7 rfl (vv 8 rfl vn))))) fun a15 w15 hD gS s15 => ?_
          have z15 := z14.grown gS (fun x _ e => by injection e with e; exact e.symm)
          have hD : RowD w15 g cap n (swp d1 i (i - 1)) := hD
          refine wpList_done ?_
          refine wp_seq ?_
          refine wp_seq ?_
          refine flowC mixed (s15.keep (sc 0 rfl (sc 1 rfl (sc 2 rfl (sc 7 rfl (sc 8 rfl sn)))))) (by kernel_rfl) (by kernel_rfl) (cc rfl (p_move g0 (od rfl id))
              (cc rfl (p_move g0 (od rfl id))
              (cc rfl (p_binC (m' := ((i - a : Nat) : Int)) (fun _ => by rw [IntKind.wrap_i64]; omega) g0 (od rfl id) (od rfl id) b_sub_3)
              (cc rfl (p_bin g0 (od rfl id) (oc _) b_geq_3) cn)))) fun a16 w16 b16 s16 => ?_
          have z16 := z15.below b16
          have hD := hD.below b16
          refine s16.cond 61 rfl (fun h61 => ?_) (fun h61 => ?_)
          · -- true
            have h2a : 2 ≤ i - a := by have h2 := of_decide_eq_true h61; (try dsimp only at h2); omega
            obtain ⟨D2, hD2⟩ : ∃ D2, shiftDown ltInt (i - 1) (swp d1 i (i - 1)) = D2 := ⟨_, rfl⟩
            have hfd : fixDown ltInt a i (swp d1 i (i - 1)) = D2 := by rw [fd_yes h2a, hD2]
            refine wp_seq ?_
            refine flowC mixed (s16.keep (sc 0 rfl (sc 1 rfl (sc 2 rfl (sc 7 rfl (sc 8 rfl (sc 58 rfl (sc 59 rfl (sc 60 rfl (sc 61 rfl sn)))))))))) (by kernel_rfl) (by kernel_rfl) (cc rfl (p_move g0 (od rfl id))
                (cc rfl (p_binC (m' := ((i - 1 : Nat) : Int)) (fun _ => by rw [IntKind.wrap_i64]; omega) g0 (od rfl id) (oc _) b_sub_3)
                (cc rfl (p_assign g0 (od rfl id)) cn))) fun a17 w17 b17 s17 => ?_
            have z17 := z16.below b17
            have hD := hD.below b17
            refine wp_block ?_
            refine wp_loopK (fun k ac wr => ∃ d', k < n ∧ RowD wr g cap n d' ∧ shiftDown ltInt k d' = D2 ∧ OnlyB (fun i => i = g) w wr ∧ StE False 133 [(0, true, .val (slD g n cap)), (1, true, .val (.int .i64 (a : Int))), (2, true, .val (.int .i64 (b : Int))), (8, true, .int .i64 (q : Int)), (7, true, .int .i64 (i : Int)), (9, true, .int .i64 (k : Int))] noF ac wr) (i - 1) ⟨_, by omega, hD, hD2, z17, s17.to _ ⟨rfl, rfl, rfl, rfl, rfl, rfl, True.intro⟩⟩ fun j a18 w18 hI => ?_
            obtain ⟨d2, hjn, hD, hsh, z18, s18⟩ := hI
            refine wp_seq ?_
            refine wp_seq ?_
            refine flowC mixed (s18.keep (sc 0 rfl (sc 1 rfl (sc 2 rfl (sc 7 rfl (sc 8 rfl (sc 9 rfl sn))))))) (by kernel_rfl) (by kernel_rfl) (cc rfl (p_move g0 (od rfl id))
                (cc rfl (p_bin g0 (od rfl id) (oc _) b_geq_3) cn)) fun a19 w19 b19 s19 => ?_
            have z19 := z18.below b19
            have hD := hD.below b19
            refine s19.cond 65 rfl (fun h65 => ?_) (fun h65 => ?_)
            · -- true
              have hj1 : 1 ≤ j := by have h2 := of_decide_eq_true h65; (try dsimp only at h2); omega
              refine wp_skip ?_
              refine wp_seq ?_
              refine wp_block ?_
              refine wp_seq ?_
              refine wp_seq ?_
              have s19 := s19.more 0 (y := .rowD g n cap d2) (at_rowD hD (s19.get 0 rfl))
              refine flowC mixed (s19.keep (sc 0 rfl (sc 1 rfl (sc 2 rfl (sc 7 rfl (sc 8 rfl (sc 9 rfl (sc 64 rfl (sc 65 rfl sn))))))))) (by kernel_rfl) (by kernel_rfl) (cc rfl (p_move g0 (od rfl id))
                  (cc rfl (p_move g0 (od rfl id))
                  (cc rfl (p_idxD (i := j) (fun h => by omega) g0 (od rfl id) (od rfl id))
                  (cc rfl (p_ldD g0 (od rfl id))
                  (cc rfl (p_move g0 (od rfl id))
                  (cc rfl (p_move g0 (od rfl id))
                  (cc rfl (p_binC (m' := ((j - 1 : Nat) : Int)) (fun _ => by rw [IntKind.wrap_i64]; omega) g0 (od rfl id) (oc _) b_sub_3)
                  (cc rfl (p_idxD (i := j - 1) (fun h => by omega) g0 (od rfl id) (od rfl id))
                  (cc rfl (p_ldD g0 (od rfl id))
                  (cc rfl (p_call 60 g0 (ox (od rfl id) (ox (od rfl id) ox0)) (fun _ _ => by kernel_rfl) f60)
                  (cc rfl (p_not g0 (od rfl id)) cn))))))))))) fun a20 w20 b20 s20 => ?_
              have z20 := z19.below b20
              have hD := hD.below b20
              have s20 := s20.more 0 (y := .val (slD g n cap)) (s20.get 0 rfl).1
              refine s20.cond 78 rfl (fun h78 => ?_) (fun h78 => ?_)
              · -- true
                rw [shd_stop hj1 h78] at hsh
                rw [hsh] at hD
                refine wp_exit ?_
                refine wp_seq ?_
                refine flowC mixed (s20.keep (sc 0 rfl (sc 1 rfl (sc 2 rfl (sc 7 rfl (sc 8 rfl (sc 9 rfl (sc 64 rfl (sc 65 rfl (sc 68 rfl (sc 69 rfl (sc 70 rfl (sc 71 rfl (sc 72 rfl (sc 73 rfl (sc 74 rfl (sc 75 rfl (sc 76 rfl (sc 77 rfl (sc 78 rfl sn)))))))))))))))))))) (by kernel_rfl) (by kernel_rfl) (cc rfl (p_move g0 (od rfl id))
                    (cc rfl (p_move g0 (od rfl id))
                    (cc rfl (p_binC (m' := ((b - i : Nat) : Int)) (fun _ => by rw [IntKind.wrap_i64]; omega) g0 (od rfl id) (od rfl id) b_sub_3)
                    (cc rfl (p_bin g0 (od rfl id) (oc _) b_geq_3) cn)))) fun a21 w21 b21 s21 => ?_
                have z21 := z20.below b21
                have hD := hD.below b21
                refine s21.cond 98 rfl (fun h98 => ?_) (fun h98 => ?_)
                · -- true
                  have h2b : 2 ≤ b - i := by have h2 := of_decide_eq_true h98; (try dsimp only at h2); omega
                  obtain ⟨D3, hD3⟩ : ∃ D3, shiftUp ltInt b (i + 1) D2 = D3 := ⟨_, rfl⟩
                  have hfu : fixUp ltInt b i D2 = D3 := by rw [fu_yes h2b, hD3]
                  rw [pin_go hI0 hne hs hfd hfu, show 4 - q = 5 - (q + 1) by omega] at heq
                  refine wp_seq ?_
                  refine flowC mixed (s21.keep (sc 0 rfl (sc 1 rfl (sc 2 rfl (sc 7 rfl (sc 8 rfl (sc 9 rfl (sc 64 rfl (sc 65 rfl (sc 68 rfl (sc 69 rfl (sc 70 rfl (sc 71 rfl (sc 72 rfl (sc 73 rfl (sc 74 rfl (sc 75 rfl (sc 76 rfl (sc 77 rfl (sc 78 rfl (sc 95 rfl (sc 96 rfl (sc 97 rfl (sc 98 rfl sn)))))))))))))))))))))))) (by kernel_rfl) (by kernel_rfl) (cc rfl (p_move g0 (od rfl id))
                      (cc rfl (p_binC (m' := ((i + 1 : Nat) : Int)) (fun _ => by rw [IntKind.wrap_i64]; omega) g0 (od rfl id) (oc _) b_add_3)
                      (cc rfl (p_assign g0 (od rfl id)) cn))) fun a22 w22 b22 s22 => ?_
                  have z22 := z21.below b22
                  have hD := hD.below b22
                  refine wp_block ?_
                  refine wp_loopK (fun k ac wr => ∃ j d', k = b - j ∧ i + 1 ≤ j ∧ j ≤ b ∧ RowD wr g cap n d' ∧ shiftUp ltInt b j d' = D3 ∧ OnlyB (fun i => i = g) w wr ∧ StE False 133 [(0, true, .val (slD g n cap)), (1, true, .val (.int .i64 (a : Int))), (2, true, .val (.int .i64 (b : Int))), (8, true, .int .i64 (q : Int)), (7, true, .int .i64 (i : Int)), (10, true, .int .i64 (j : Int))] noF ac wr) (b - (i + 1)) ⟨i + 1, _, rfl, by omega, by omega, hD, hD3, z22, s22.to _ ⟨rfl, rfl, rfl, rfl, rfl, rfl, True.intro⟩⟩ fun k a23 w23 hI => ?_
                  obtain ⟨j, d3, rfl, hij, hjb, hD, hsh, z23, s23⟩ := hI
                  refine wp_seq ?_
                  refine wp_seq ?_
                  refine flowC mixed (s23.keep (sc 0 rfl (sc 1 rfl (sc 2 rfl (sc 7 rfl (sc 8 rfl (sc 10 rfl sn))))))) (by kernel_rfl) (by kernel_rfl) (cc rfl (p_move g0 (od rfl id))
                      (cc rfl (p_move g0 (od rfl id))
                      (cc rfl (p_bin g0 (od rfl id) (od rfl id) b_lss_3) cn))) fun a24 w24 b24 s24 => ?_
                  have z24 := z23.below b24
                  have hD := hD.below b24
                  refine s24.cond 103 rfl (fun h103 => ?_) (fun h103 => ?_)
                  · -- true
                    have hjlt : j < b := by have h2 := of_decide_eq_true h103; (try dsimp only at h2); omega
                    refine wp_skip ?_
                    refine wp_seq ?_
                    refine wp_block ?_
                    refine wp_seq ?_
                    refine wp_seq ?_
                    have s24 := s24.more 0 (y := .rowD g n cap d3) (at_rowD hD (s24.get 0 rfl))
                    refine flowC mixed (s24.keep (sc 0 rfl (sc 1 rfl (sc 2 rfl (sc 7 rfl (sc 8 rfl (sc 10 rfl (sc 101 rfl (sc 102 rfl (sc 103 rfl sn)))))))))) (by kernel_rfl) (by kernel_rfl) (cc rfl (p_move g0 (od rfl id))
                        (cc rfl (p_move g0 (od rfl id))
                        (cc rfl (p_idxD (i := j) (fun h => by omega) g0 (od rfl id) (od rfl id))
                        (cc rfl (p_ldD g0 (od rfl id))
                        (cc rfl (p_move g0 (od rfl id))
                        (cc rfl (p_move g0 (od rfl id))
                        (cc rfl (p_binC (m' := ((j - 1 : Nat) : Int)) (fun _ => by rw [IntKind.wrap_i64]; omega) g0 (od rfl id) (oc _) b_sub_3)
                        (cc rfl (p_idxD (i := j - 1) (fun h => by omega) g0 (od rfl id) (od rfl id))
                        (cc rfl (p_ldD g0 (od rfl id))
                        (cc rfl (p_call 60 g0 (ox (od rfl id) (ox (od rfl id) ox0)) (fun _ _ => by kernel_rfl) f60)
                        (cc rfl (p_not g0 (od rfl id)) cn))))))))))) fun a25 w25 b25 s25 => ?_
                    have z25 := z24.below b25
                    have hD := hD.below b25
                    have s25 := s25.more 0 (y := .val (slD g n cap)) (s25.get 0 rfl).1
                    refine s25.cond 116 rfl (fun h116 => ?_) (fun h116 => ?_)
                    · -- true
                      rw [shu_stop hjlt h116] at hsh
                      rw [hsh] at hD
                      refine wp_exit ?_
                      refine flowT (s25.keep (sc 0 rfl (sc 1 rfl (sc 2 rfl (sc 7 rfl (sc 8 rfl (sc 10 rfl (sc 101 rfl (sc 102 rfl (sc 103 rfl (sc 106 rfl (sc 107 rfl (sc 108 rfl (sc 109 rfl (sc 110 rfl (sc 111 rfl (sc 112 rfl (sc 113 rfl (sc 114 rfl (sc 115 rfl (sc 116 rfl sn))))))))))))))))))))) (by kernel_rfl) (cc rfl (p_move g0 (od rfl id))
                          (cc rfl (p_binC (m' := ((q + 1 : Nat) : Int)) (fun _ => by rw [IntKind.wrap_i64]; omega) g0 (od rfl id) (oc _) b_add_3)
                          (cc rfl (p_assign g0 (od rfl id)) cn))) fun a26 w26 b26 s26 => ?_
                      have z26 := z25.below b26
                      have hD := hD.below b26
                      exact ⟨5 - (q + 1), by omega, i, q + 1, _, rfl, by omega, by omega, by omega, hD, heq, z26, s26.to _ ⟨rfl, rfl, rfl, rfl, rfl, True.intro⟩⟩
                    · -- false
                      rw [shu_go hjlt h116] at hsh
                      refine wp_skip ?_
                      refine flowD 15 131 126 (i := j) (z := d3[(j - 1)]!) (vv 0 rfl (vv 1 rfl (vv 2 rfl (vv 7 rfl (vv 8 rfl (vv 10 rfl vn)))))) (by omega) s25 hD ⟨_, _, _, rfl⟩ (by kernel_rfl) (by kernel_rfl) (lc rfl (p_move g0 (od rfl id))
                          (lc rfl (p_move g0 (od rfl id))
                          (lc rfl (p_move g0 (od rfl id))
                          (lc rfl (p_move g0 (od rfl id))
                          (lc rfl (p_binC (m' := ((j - 1 : Nat) : Int)) (fun _ => by rw [IntKind.wrap_i64]; omega) g0 (od rfl id) (oc _) b_sub_3)
                          (lc rfl (p_move g0 (od rfl id))
                          (lc rfl (p_move g0 (od rfl id))
                          (lc rfl (p_binC (m' := ((j - 1 : Nat) : Int)) (fun _ => by rw [IntKind.wrap_i64]; omega) g0 (od rfl id) (oc _) b_sub_3)
                          (lc rfl (p_idxVD (i := (j - 1)) (by omega) g0 (od rfl id) (od rfl id))
                          (ll rfl (p_ldL (i := (j - 1)) (by omega) g0 (od rfl id))
                          (lc rfl (p_move g0 (od rfl id))
                          (lc rfl (p_move g0 (od rfl id))
                          (lc rfl (p_idxVD (i := j) (by omega) g0 (od rfl id) (od rfl id))
                          (ll rfl (p_ldL (i := j) (by omega) g0 (od rfl id))
                          (lc rfl (p_idxVD (i := j) (by omega) g0 (od rfl id) (od rfl id)) ln))))))))))))))) (by kernel_rfl) rfl rfl (vv 0 rfl (vv 1 rfl (vv 2 rfl (vv 7 rfl (vv 8 rfl (vv 10 rfl (vv 119 rfl (vv 121 rfl (vv 130 rfl vn))))))))) fun a27 w27 hD gS s27 => ?_
                      have z27 := z25.grown gS (fun x _ e => by injection e with e; exact e.symm)
                      refine chainK 1 (cc rfl (p_idxVD (i := (j - 1)) (by omega) g0 (od rfl id) (od rfl id)) cn) (by kernel_rfl) s27 fun a28 w28 b28 s28 => ?_
                      have z28 := z27.below b28
                      have hD := hD.below b28
                      show wpList _ _ _ (_ :: _) _ _
                      refine storeD_on (i := (j - 1)) (x := d3[j]!) s28 rfl rfl rfl (s28.get 132 rfl) (s28.get 130 rfl) hD (by omega) (vv 0 rfl (vv 1 rfl (vv 2 rfl (vv 7 rfl (vv 8 rfl (vv 10 rfl vn)))))) fun a29 w29 hD gS s29 => ?_
                      have z29 := z28.grown gS (fun x _ e => by injection e with e; exact e.symm)
                      have hD : RowD w29 g cap n (swp d3 j (j - 1)) := hD
                      refine wpList_done ?_
                      refine flowT (s29.keep (sc 0 rfl (sc 1 rfl (sc 2 rfl (sc 7 rfl (sc 8 rfl (sc 10 rfl sn))))))) (by kernel_rfl) (cc rfl (p_move g0 (od rfl id))
                          (cc rfl (p_binC (m' := ((j + 1 : Nat) : Int)) (fun _ => by rw [IntKind.wrap_i64]; omega) g0 (od rfl id) (oc _) b_add_3)
                          (cc rfl (p_assign g0 (od rfl id)) cn))) fun a30 w30 b30 s30 => ?_
                      have z30 := z29.below b30
                      have hD := hD.below b30
                      exact ⟨b - (j + 1), by omega, j + 1, _, rfl, by omega, by omega, hD, hsh, z30, s30.to _ ⟨rfl, rfl, rfl, rfl, rfl, rfl, True.intro⟩⟩
                  · -- false
                    have hjlt : ¬ j < b := by have h2 := of_decide_eq_false h103; (try dsimp only at h2); omega
                    rw [shu_end hjlt] at hsh
                    rw [hsh] at hD
                    refine wp_exit ?_
                    refine flowT (s24.keep (sc 0 rfl (sc 1 rfl (sc 2 rfl (sc 7 rfl (sc 8 rfl (sc 10 rfl (sc 101 rfl (sc 102 rfl (sc 103 rfl sn)))))))))) (by kernel_rfl) (cc rfl (p_move g0 (od rfl id))
                        (cc rfl (p_binC (m' := ((q + 1 : Nat) : Int)) (fun _ => by rw [IntKind.wrap_i64]; omega) g0 (od rfl id) (oc _) b_add_3)
                        (cc rfl (p_assign g0 (od rfl id)) cn))) fun a31 w31 b31 s31 => ?_
                    have z31 := z24.below b31
                    have hD := hD.below b31
                    exact ⟨5 - (q + 1), by omega, i, q + 1, _, rfl, by omega, by omega, by omega, hD, heq, z31, s31.to _ ⟨rfl, rfl, rfl, rfl, rfl, True.intro⟩⟩
                · -- false
                  have h2b : ¬ 2 ≤ b - i := by have h2 := of_decide_eq_false h98; (try dsimp only at h2); omega
                  have hfu : fixUp ltInt b i D2 = D2 := fu_no h2b
                  rw [pin_go hI0 hne hs hfd hfu, show 4 - q = 5 - (q + 1) by omega] at heq
                  refine wp_skip ?_
                  refine flowT (s21.keep (sc 0 rfl (sc 1 rfl (sc 2 rfl (sc 7 rfl (sc 8 rfl (sc 9 rfl (sc 64 rfl (sc 65 rfl (sc 68 rfl (sc 69 rfl (sc 70 rfl (sc 71 rfl (sc 72 rfl (sc 73 rfl (sc 74 rfl (sc 75 rfl (sc 76 rfl (sc 77 rfl (sc 78 rfl (sc 95 rfl (sc 96 rfl (sc 97 rfl (sc 98 rfl sn)))))))))))))))))))))))) (by kernel_rfl) (cc rfl (p_move g0 (od rfl id))
                      (cc rfl (p_binC (m' := ((q + 1 : Nat) : Int)) (fun _ => by rw [IntKind.wrap_i64]; omega) g0 (od rfl id) (oc _) b_add_3)
                      (cc rfl (p_assign g0 (od rfl id)) cn))) fun a32 w32 b32 s32 => ?_
                  have z32 := z21.below b32
                  have hD := hD.below b32
                  exact ⟨5 - (q + 1), by omega, i, q + 1, _, rfl, by omega, by omega, by omega, hD, heq, z32, s32.to _ ⟨rfl, rfl, rfl, rfl, rfl, True.intro⟩⟩
              · -- false
                rw [shd_go hj1 h78] at hsh
                refine wp_skip ?_
                refine flowD 15 93 88 (i := j) (z := d2[(j - 1)]!) (vv 0 rfl (vv 1 rfl (vv 2 rfl (vv 7 rfl (vv 8 rfl (vv 9 rfl vn)))))) (by omega) s20 hD ⟨_, _, _, rfl⟩ (by kernel_rfl) (by kernel_rfl) (lc rfl (p_move g0 (od rfl id))
                    (lc rfl (p_move g0 (od rfl id))
                    (lc rfl (p_move g0 (od rfl id))
                    (lc rfl (p_move g0 (od rfl id))
                    (lc rfl (p_binC (m' := ((j - 1 : Nat) : Int)) (fun _ => by rw [IntKind.wrap_i64]; omega) g0 (od rfl id) (oc _) b_sub_3)
                    (lc rfl (p_move g0 (od rfl id))
                    (lc rfl (p_move g0 (od rfl id))
                    (lc rfl (p_binC (m' := ((j - 1 : Nat) : Int)) (fun _ => by rw [IntKind.wrap_i64]; omega) g0 (od rfl id) (oc _) b_sub_3)
                    (lc rfl (p_idxVD (i := (j - 1)) (by omega) g0 (od rfl id) (od rfl id))
                    (ll rfl (p_ldL (i := (j - 1)) (by omega) g0 (od rfl id))
                    (lc rfl (p_move g0 (od rfl id))
                    (lc rfl (p_move g0 (od rfl id))
                    (lc rfl (p_idxVD (i := j) (by omega) g0 (od rfl id) (od rfl id))
                    (ll rfl (p_ldL (i := j) (by omega) g0 (od rfl id))
                    (lc rfl (p_idxVD (i := j) (by omega) g0 (od rfl id) (od rfl id)) ln))))))))))))))) (by kernel_rfl) rfl rfl (vv 0 rfl (vv 1 rfl (vv 2 rfl (vv 7 rfl (vv 8 rfl (vv 9 rfl (vv 81 rfl (vv 83 rfl (vv 92 rfl vn))))))))) fun a33 w33 hD gS s33 => ?_
                have z33 := z20.grown gS (fun x _ e => by injection e with e; exact e.symm)
                refine chainK 1 (cc rfl (p_idxVD (i := (j - 1)) (by omega) g0 (od rfl id) (od rfl id)) cn) (by kernel_rfl) s33 fun a34 w34 b34 s34 => ?_
                have z34 := z33.below b34
                have hD := hD.below b34
                show wpList _ _ _ (_ :: _) _ _
                refine storeD_on (i := (j - 1)) (x := d2[j]!) s34 rfl rfl rfl (s34.get 94 rfl) (s34.get 92 rfl) hD (by omega) (vv 0 rfl (vv 1 rfl (vv 2 rfl (vv 7 rfl (vv 8 rfl (vv 9 rfl vn)))))) fun a35 w35 hD gS s35 => ?_
                have z35 := z34.grown gS (fun x _ e => by injection e with e; exact e.symm)
                have hD : RowD w35 g cap n (swp d2 j (j - 1)) := hD
                refine wpList_done ?_
                refine flowT (s35.keep (sc 0 rfl (sc 1 rfl (sc 2 rfl (sc 7 rfl (sc 8 rfl (sc 9 rfl sn))))))) (by kernel_rfl) (cc rfl (p_move g0 (od rfl id))
                    (cc rfl (p_binC (m' := ((j - 1 : Nat) : Int)) (fun _ => by rw [IntKind.wrap_i64]; omega) g0 (od rfl id) (oc _) b_sub_3)
                    (cc rfl (p_assign g0 (od rfl id)) cn))) fun a36 w36 b36 s36 => ?_
                have z36 := z35.below b36
                have hD := hD.below b36
                exact ⟨j - 1, by omega, _, by omega, hD, hsh, z36, s36.to _ ⟨rfl, rfl, rfl, rfl, rfl, rfl, True.intro⟩⟩
            · -- false
              have hj1 : j = 0 := by have h2 := of_decide_eq_false h65; (try dsimp only at h2); omega
              subst hj1
              rw [shd_zero] at hsh
              rw [hsh] at hD
              refine wp_exit ?_
              refine wp_seq ?_
              refine flowC mixed (s19.keep (sc 0 rfl (sc 1 rfl (sc 2 rfl (sc 7 rfl (sc 8 rfl (sc 9 rfl (sc 64 rfl (sc 65 rfl sn))))))))) (by kernel_rfl) (by kernel_rfl) (cc rfl (p_move g0 (od rfl id))
                  (cc rfl (p_move g0 (od rfl id))
                  (cc rfl (p_binC (m' := ((b - i : Nat) : Int)) (fun _ => by rw [IntKind.wrap_i64]; omega) g0 (od rfl id) (od rfl id) b_sub_3)
                  (cc rfl (p_bin g0 (od rfl id) (oc _) b_geq_3) cn)))) fun a37 w37 b37 s37 => ?_
              have z37 := z19.below b37
              have hD := hD.below b37
              refine s37.cond 98 rfl (fun h98 => ?_) (fun h98 => ?_)
              · -- true
                have h2b : 2 ≤ b - i := by have h2 := of_decide_eq_true h98; (try dsimp only at h2); omega
                obtain ⟨D3, hD3⟩ : ∃ D3, shiftUp ltInt b (i + 1) D2 = D3 := ⟨_, rfl⟩
                have hfu : fixUp ltInt b i D2 = D3 := by rw [fu_yes h2b, hD3]
                rw [pin_go hI0 hne hs hfd hfu, show 4 - q = 5 - (q + 1) by omega] at heq
                refine wp_seq ?_
                refine flowC mixed (s37.keep (sc 0 rfl (sc 1 rfl (sc 2 rfl (sc 7 rfl (sc 8 rfl (sc 9 rfl (sc 64 rfl (sc 65 rfl (sc 95 rfl (sc 96 rfl (sc 97 rfl (sc 98 rfl sn))))))))))))) (by kernel_rfl) (by kernel_rfl) (cc rfl (p_move g0 (od rfl id))
                    (cc rfl (p_binC (m' := ((i + 1 : Nat) : Int)) (fun _ => by rw [IntKind.wrap_i64]; omega) g0 (od rfl id) (oc _) b_add_3)
                    (cc rfl (p_assign g0 (od rfl id)) cn))) fun a38 w38 b38 s38 => ?_
                have z38 := z37.below b38
                have hD := hD.below b38
                refine wp_block ?_
                refine wp_loopK (fun k ac wr => ∃ j d', k = b - j ∧ i + 1 ≤ j ∧ j ≤ b ∧ RowD wr g cap n d' ∧ shiftUp ltInt b j d' = D3 ∧ OnlyB (fun i => i = g) w wr ∧ StE False 133 [(0, true, .val (slD g n cap)), (1, true, .val (.int .i64 (a : Int))), (2, true, .val (.int .i64 (b : Int))), (8, true, .int .i64 (q : Int)), (7, true, .int .i64 (i : Int)), (10, true, .int .i64 (j : Int))] noF ac wr) (b - (i + 1)) ⟨i + 1, _, rfl, by omega, by omega, hD, hD3, z38, s38.to _ ⟨rfl, rfl, rfl, rfl, rfl, rfl, True.intro⟩⟩ fun k a39 w39 hI => ?_
                obtain ⟨j, d3, rfl, hij, hjb, hD, hsh, z39, s39⟩ := hI
                refine wp_seq ?_
                refine wp_seq ?_
                refine flowC mixed (s39.keep (sc 0 rfl (sc 1 rfl (sc 2 rfl (sc 7 rfl (sc 8 rfl (sc 10 rfl sn))))))) (by kernel_rfl) (by kernel_rfl) (cc rfl (p_move g0 (od rfl id))
                    (cc rfl (p_move g0 (od rfl id))
                    (cc rfl (p_bin g0 (od rfl id) (od rfl id) b_lss_3) cn))) fun a40 w40 b40 s40 => ?_
                have z40 := z39.below b40
                have hD := hD.below b40
                refine s40.cond 103 rfl (fun h103 => ?_) (fun h103 => ?_)
                · -- true
                  have hjlt : j < b := by have h2 := of_decide_eq_true h103; (try dsimp only at h2); omega
                  refine wp_skip ?_
                  refine wp_seq ?_
                  refine wp_block ?_
                  refine wp_seq ?_
                  refine wp_seq ?_
                  have s40 := s40.more 0 (y := .rowD g n cap d3) (at_rowD hD (s40.get 0 rfl))
                  refine flowC mixed (s40.keep (sc 0 rfl (sc 1 rfl (sc 2 rfl (sc 7 rfl (sc 8 rfl (sc 10 rfl (sc 101 rfl (sc 102 rfl (sc 103 rfl sn)))))))))) (by kernel_rfl) (by kernel_rfl) (cc rfl (p_move g0 (od rfl id))
                      (cc rfl (p_move g0 (od rfl id))
                      (cc rfl (p_idxD (i := j) (fun h => by omega) g0 (od rfl id) (od rfl id))
                      (cc rfl (p_ldD g0 (od rfl id))
                      (cc rfl (p_move g0 (od rfl id))
                      (cc rfl (p_move g0 (od rfl id))
                      (cc rfl (p_binC (m' := ((j - 1 : Nat) : Int)) (fun _ => by rw [IntKind.wrap_i64]; omega) g0 (od rfl id) (oc _) b_sub_3)
                      (cc rfl (p_idxD (i := j - 1) (fun h => by omega) g0 (od rfl id) (od rfl id))
                      (cc rfl (p_ldD g0 (od rfl id))
                      (cc rfl (p_call 60 g0 (ox (od rfl id) (ox (od rfl id) ox0)) (fun _ _ => by kernel_rfl) f60)
                      (cc rfl (p_not g0 (od rfl id)) cn))))))))))) fun a41 w41 b41 s41 => ?_
                  have z41 := z40.below b41
                  have hD := hD.below b41
                  have s41 := s41.more 0 (y := .val (slD g n cap)) (s41.get 0 rfl).1
                  refine s41.cond 116 rfl (fun h116 => ?_) (fun h116 => ?_)
                  · -- true
                    rw [shu_stop hjlt h116] at hsh
                    rw [hsh] at hD
                    refine wp_exit ?_
                    refine flowT (s41.keep (sc 0 rfl (sc 1 rfl (sc 2 rfl (sc 7 rfl (sc 8 rfl (sc 10 rfl (sc 101 rfl (sc 102 rfl (sc 103 rfl (sc 106 rfl (sc 107 rfl (sc 108 rfl (sc 109 rfl (sc 110 rfl (sc 111 rfl (sc 112 rfl (sc 113 rfl (sc 114 rfl (sc 115 rfl (sc 116 rfl sn))))))))))))))))))))) (by kernel_rfl) (cc rfl (p_move g0 (od rfl id))
                        (cc rfl (p_binC (m' := ((q + 1 : Nat) : Int)) (fun _ => by rw [IntKind.wrap_i64]; omega) g0 (od rfl id) (oc _) b_add_3)
                        (cc rfl (p_assign g0 (od rfl id)) cn))) fun a42 w42 b42 s42 => ?_
                    have z42 := z41.below b42
                    have hD := hD.below b42
                    exact ⟨5 - (q + 1), by omega, i, q + 1, _, rfl, by omega, by omega, by omega, hD, heq, z42, s42.to _ ⟨rfl, rfl, rfl, rfl, rfl, True.intro⟩⟩
                  · -- false
                    rw [shu_go hjlt h116] at hsh
                    refine wp_skip ?_
                    refine flowD 15 131 126 (i := j) (z := d3[(j - 1)]!) (vv 0 rfl (vv 1 rfl (vv 2 rfl (vv 7 rfl (vv 8 rfl (vv 10 rfl vn)))))) (by omega) s41 hD ⟨_, _, _, rfl⟩ (by kernel_rfl) (by kernel_rfl) (lc rfl (p_move g0 (od rfl id))
                        (lc rfl (p_move g0 (od rfl id))
                        (lc rfl (p_move g0 (od rfl id))
                        (lc rfl (p_move g0 (od rfl id))
                        (lc rfl (p_binC (m' := ((j - 1 : Nat) : Int)) (fun _ => by rw [IntKind.wrap_i64]; omega) g0 (od rfl id) (oc _) b_sub_3)
                        (lc rfl (p_move g0 (od rfl id))
                        (lc rfl (p_move g0 (od rfl id))
                        (lc rfl (p_binC (m' := ((j - 1 : Nat) : Int)) (fun _ => by rw [IntKind.wrap_i64]; omega) g0 (od rfl id) (oc _) b_sub_3)
                        (lc rfl (p_idxVD (i := (j - 1)) (by omega) g0 (od rfl id) (od rfl id))
                        (ll rfl (p_ldL (i := (j - 1)) (by omega) g0 (od rfl id))
                        (lc rfl (p_move g0 (od rfl id))
                        (lc rfl (p_move g0 (od rfl id))
                        (lc rfl (p_idxVD (i := j) (by omega) g0 (od rfl id) (od rfl id))
                        (ll rfl (p_ldL (i := j) (by omega) g0 (od rfl id))
                        (lc rfl (p_idxVD (i := j) (by omega) g0 (od rfl id) (od rfl id)) ln))))))))))))))) (by kernel_rfl) rfl rfl (vv 0 rfl (vv 1 rfl (vv 2 rfl (vv 7 rfl (vv 8 rfl (vv 10 rfl (vv 119 rfl (vv 121 rfl (vv 130 rfl vn))))))))) fun a43 w43 hD gS s43 => ?_
                    have z43 := z41.grown gS (fun x _ e => by injection e with e; exact e.symm)
                    refine chainK 1 (cc rfl (p_idxVD (i := (j - 1)) (by omega) g0 (od rfl id) (od rfl id)) cn) (by kernel_rfl) s43 fun a44 w44 b44 s44 => ?_
                    have z44 := z43.below b44
                    have hD := hD.below b44
                    show wpList _ _ _ (_ :: _) _ _
                    refine storeD_on (i := (j - 1)) (x := d3[j]!) s44 rfl rfl rfl (s44.get 132 rfl) (s44.get 130 rfl) hD (by omega) (vv 0 rfl (vv 1 rfl (vv 2 rfl (vv 7 rfl (vv 8 rfl (vv 10 rfl vn)))))) fun a45 w45 hD gS s45 => ?_
                    have z45 := z44.grown gS (fun x _ e => by injection e with e; exact e.symm)
                    have hD : RowD w45 g cap n (swp d3 j (j - 1)) := hD
                    refine wpList_done ?_
                    refine flowT (s45.keep (sc 0 rfl (sc 1 rfl (sc 2 rfl (sc 7 rfl (sc 8 rfl (sc 10 rfl sn))))))) (by kernel_rfl) (cc rfl (p_move g0 (od rfl id))
                        (cc rfl (p_binC (m' := ((j + 1 : Nat) : Int)) (fun _ => by rw [IntKind.wrap_i64]; omega) g0 (od rfl id) (oc _) b_add_3)
                        (cc rfl (p_assign g0 (od rfl id)) cn))) fun a46 w46 b46 s46 => ?_
                    have z46 := z45.below b46
                    have hD := hD.below b46
                    exact ⟨b - (j + 1), by omega, j + 1, _, rfl, by omega, by omega, hD, hsh, z46, s46.to _ ⟨rfl, rfl, rfl, rfl, rfl, rfl, True.intro⟩⟩
                · -- false
                  have hjlt : ¬ j < b := by have h2 := of_decide_eq_false h103; (try dsimp only at h2); omega
                  rw [shu_end hjlt] at hsh
                  rw [hsh] at hD
                  refine wp_exit ?_
                  refine flowT (s40.keep (sc 0 rfl (sc 1 rfl (sc 2 rfl (sc 7 rfl (sc 8 rfl (sc 10 rfl (sc 101 rfl (sc 102 rfl (sc 103 rfl sn)))))))))) (by kernel_rfl) (cc rfl (p_move g0 (od rfl id))
                      (cc rfl (p_binC (m' := ((q + 1 : Nat) : Int)) (fun _ => by rw [IntKind.wrap_i64]; omega) g0 (od rfl id) (oc _) b_add_3)
                      (cc rfl (p_assign g0 (od rfl id)) cn))) fun a47 w47 b47 s47 => ?_
                  have z47 := z40.below b47
                  have hD := hD.below b47
                  exact ⟨5 - (q + 1), by omega, i, q + 1, _, rfl, by omega, by omega, by omega, hD, heq, z47, s47.to _ ⟨rfl, rfl, rfl, rfl, rfl, True.intro⟩⟩
              · -- false
                have h2b : ¬ 2 ≤ b - i := by have h2 := of_decide_eq_false h98; (try dsimp only at h2); omega
                have hfu : fixUp ltInt b i D2 = D2 := fu_no h2b
                rw [pin_go hI0 hne hs hfd hfu, show 4 - q = 5 - (q + 1) by omega] at heq
                refine wp_skip ?_
                refine flowT (s37.keep (sc 0 rfl (sc 1 rfl (sc 2 rfl (sc 7 rfl (sc 8 rfl (sc 9 rfl (sc 64 rfl (sc 65 rfl (sc 95 rfl (sc 96 rfl (sc 97 rfl (sc 98 rfl sn))))))))))))) (by kernel_rfl) (cc rfl (p_move g0 (od rfl id))
                    (cc rfl (p_binC (m' := ((q + 1 : Nat) : Int)) (fun _ => by rw [IntKind.wrap_i64]; omega) g0 (od rfl id) (oc _) b_add_3)
                    (cc rfl (p_assign g0 (od rfl id)) cn))) fun a48 w48 b48 s48 => ?_
                have z48 := z37.below b48
                have hD := hD.below b48
                exact ⟨5 - (q + 1), by omega, i, q + 1, _, rfl, by omega, by omega, by omega, hD, heq, z48, s48.to _ ⟨rfl, rfl, rfl, rfl, rfl, True.intro⟩⟩
          · -- false
            have h2a : ¬ 2 ≤ i - a := by have h2 := of_decide_eq_false h61; (try dsimp only at h2); omega
            obtain ⟨D2, hD2⟩ : ∃ D2, swp d1 i (i - 1) = D2 := ⟨_, rfl⟩
            have hfd : fixDown ltInt a i (swp d1 i (i - 1)) = D2 := by rw [fd_no h2a, hD2]
            rw [hD2] at hD
            refine wp_skip ?_
            refine wp_seq ?_
            refine flowC mixed (s16.keep (sc 0 rfl (sc 1 rfl (sc 2 rfl (sc 7 rfl (sc 8 rfl (sc 58 rfl (sc 59 rfl (sc 60 rfl (sc 61 rfl sn)))))))))) (by kernel_rfl) (by kernel_rfl) (cc rfl (p_move g0 (od rfl id))
                (cc rfl (p_move g0 (od rfl id))
                (cc rfl (p_binC (m' := ((b - i : Nat) : Int)) (fun _ => by rw [IntKind.wrap_i64]; omega) g0 (od rfl id) (od rfl id) b_sub_3)
                (cc rfl (p_bin g0 (od rfl id) (oc _) b_geq_3) cn)))) fun a49 w49 b49 s49 => ?_
            have z49 := z16.below b49
            have hD := hD.below b49
            refine s49.cond 98 rfl (fun h98 => ?_) (fun h98 => ?_)
            · -- true
              have h2b : 2 ≤ b - i := by have h2 := of_decide_eq_true h98; (try dsimp only at h2); omega
              obtain ⟨D3, hD3⟩ : ∃ D3, shiftUp ltInt b (i + 1) D2 = D3 := ⟨_, rfl⟩
              have hfu : fixUp ltInt b i D2 = D3 := by rw [fu_yes h2b, hD3]
              rw [pin_go hI0 hne hs hfd hfu, show 4 - q = 5 - (q + 1) by omega] at heq
              refine wp_seq ?_
              refine flowC mixed (s49.keep (sc 0 rfl (sc 1 rfl (sc 2 rfl (sc 7 rfl (sc 8 rfl (sc 58 rfl (sc 59 rfl (sc 60 rfl (sc 61 rfl (sc 95 rfl (sc 96 rfl (sc 97 rfl (sc 98 rfl sn)))))))))))))) (by kernel_rfl) (by kernel_rfl) (cc rfl (p_move g0 (od rfl id))
                  (cc rfl (p_binC (m' := ((i + 1 : Nat) : Int)) (fun _ => by rw [IntKind.wrap_i64]; omega) g0 (od rfl id) (oc _) b_add_3)
                  (cc rfl (p_assign g0 (od rfl id)) cn))) fun a50 w50 b50 s50 => ?_
              have z50 := z49.below b50
              have hD := hD.below b50
              refine wp_block ?_
              refine wp_loopK (fun k ac wr => ∃ j d', k = b - j ∧ i + 1 ≤ j ∧ j ≤ b ∧ RowD wr g cap n d' ∧ shiftUp ltInt b j d' = D3 ∧ OnlyB (fun i => i = g) w wr ∧ StE False 133 [(0, true, .val (slD g n cap)), (1, true, .val (.int .i64 (a : Int))), (2, true, .val (.int .i64 (b : Int))), (8, true, .int .i64 (q : Int)), (7, true, .int .i64 (i : Int)), (10, true, .int .i64 (j : Int))] noF ac wr) (b - (i + 1)) ⟨i + 1, _, rfl, by omega, by omega, hD, hD3, z50, s50.to _ ⟨rfl, rfl, rfl, rfl, rfl, rfl, True.intro⟩⟩ fun k a51 w51 hI => ?_
              obtain ⟨j, d3, rfl, hij, hjb, hD, hsh, z51, s51⟩ := hI
              refine wp_seq ?_
              refine wp_seq ?_
              refine flowC mixed (s51.keep (sc 0 rfl (sc 1 rfl (sc 2 rfl (sc 7 rfl (sc 8 rfl (sc 10 rfl sn))))))) (by kernel_rfl) (by kernel_rfl) (cc rfl (p_move g0 (od rfl id))
                  (cc rfl (p_move g0 (od rfl id))
                  (cc rfl (p_bin g0 (od rfl id) (od rfl id) b_lss_3) cn))) fun a52 w52 b52 s52 => ?_
              have z52 := z51.below b52
              have hD := hD.below b52
              refine s52.cond 103 rfl (fun h103 => ?_) (fun h103 => ?_)
              · -- true
                have hjlt : j < b := by have h2 := of_decide_eq_true h103; (try dsimp only at h2); omega
                refine wp_skip ?_
                refine wp_seq ?_
                refine wp_block ?_
                refine wp_seq ?_
                refine wp_seq ?_
                have s52 := s52.more 0 (y := .rowD g n cap d3) (at_rowD hD (s52.get 0 rfl))
                refine flowC mixed (s52.keep (sc 0 rfl (sc 1 rfl (sc 2 rfl (sc 7 rfl (sc 8 rfl (sc 10 rfl (sc 101 rfl (sc 102 rfl (sc 103 rfl sn)))))))))) (by kernel_rfl) (by kernel_rfl) (cc rfl (p_move g0 (od rfl id))
                    (cc rfl (p_move g0 (od rfl id))
                    (cc rfl (p_idxD (i := j) (fun h => by omega) g0 (od rfl id) (od rfl id))
                    (cc rfl (p_ldD g0 (od rfl id))
                    (cc rfl (p_move g0 (od rfl id))
                    (cc rfl (p_move g0 (od rfl id))
                    (cc rfl (p_binC (m' := ((j - 1 : Nat) : Int)) (fun _ => by rw [IntKind.wrap_i64]; omega) g0 (od rfl id) (oc _) b_sub_3)
                    (cc rfl (p_idxD (i := j - 1) (fun h => by omega) g0 (od rfl id) (od rfl id))
                    (cc rfl (p_ldD g0 (od rfl id))
                    (cc rfl (p_call 60 g0 (ox (od rfl id) (ox (od rfl id) ox0)) (fun _ _ => by kernel_rfl) f60)
                    (cc rfl (p_not g0 (od rfl id)) cn))))))))))) fun a53 w53 b53 s53 => ?_
                have z53 := z52.below b53
                have hD := hD.below b53
                have s53 := s53.more 0 (y := .val (slD g n cap)) (s53.get 0 rfl).1
                refine s53.cond 116 rfl (fun h116 => ?_) (fun h116 => ?_)
                · -- true
                  rw [shu_stop hjlt h116] at hsh
                  rw [hsh] at hD
                  refine wp_exit ?_
                  refine flowT (s53.keep (sc 0 rfl (sc 1 rfl (sc 2 rfl (sc 7 rfl (sc 8 rfl (sc 10 rfl (sc 101 rfl (sc 102 rfl (sc 103 rfl (sc 106 rfl (sc 107 rfl (sc 108 rfl (sc 109 rfl (sc 110 rfl (sc 111 rfl (sc 112 rfl (sc 113 rfl (sc 114 rfl (sc 115 rfl (sc 116 rfl sn))))))))))))))))))))) (by kernel_rfl) (cc rfl (p_move g0 (od rfl id))
                      (cc rfl (p_binC (m' := ((q + 1 : Nat) : Int)) (fun _ => by rw [IntKind.wrap_i64]; omega) g0 (od rfl id) (oc _) b_add_3)
                      (cc rfl (p_assign g0 (od rfl id)) cn))) fun a54 w54 b54 s54 => ?_
                  have z54 := z53.below b54
                  have hD := hD.below b54
                  exact ⟨5 - (q + 1), by omega, i, q + 1, _, rfl, by omega, by omega, by omega, hD, heq, z54, s54.to _ ⟨rfl, rfl, rfl, rfl, rfl, True.intro⟩⟩
                · -- false
                  rw [shu_go hjlt h116] at hsh
                  refine wp_skip ?_
                  refine flowD 15 131 126 (i := j) (z := d3[(j - 1)]!) (vv 0 rfl (vv 1 rfl (vv 2 rfl (vv 7 rfl (vv 8 rfl (vv 10 rfl vn)))))) (by omega) s53 hD ⟨_, _, _, rfl⟩ (by kernel_rfl) (by kernel_rfl) (lc rfl (p_move g0 (od rfl id))
                      (lc rfl (p_move g0 (od rfl id))
                      (lc rfl (p_move g0 (od rfl id))
                      (lc rfl (p_move g0 (od rfl id))
                      (lc rfl (p_binC (m' := ((j - 1 : Nat) : Int)) (fun _ => by rw [IntKind.wrap_i64]; omega) g0 (od rfl id) (oc _) b_sub_3)
                      (lc rfl (p_move g0 (od rfl id))
                      (lc rfl (p_move g0 (od rfl id))
                      (lc rfl (p_binC (m' := ((j - 1 : Nat) : Int)) (fun _ => by rw [IntKind.wrap_i64]; omega) g0 (od rfl id) (oc _) b_sub_3)
                      (lc rfl (p_idxVD (i := (j - 1)) (by omega) g0 (od rfl id) (od rfl id))
                      (ll rfl (p_ldL (i := (j - 1)) (by omega) g0 (od rfl id))
                      (lc rfl (p_move g0 (od rfl id))
                      (lc rfl (p_move g0 (od rfl id))
                      (lc rfl (p_idxVD (i := j) (by omega) g0 (od rfl id) (od rfl id))
                      (ll rfl (p_ldL (i := j) (by omega) g0 (od rfl id))
                      (lc rfl (p_idxVD (i := j) (by omega) g0 (od rfl id) (od rfl id)) ln))))))))))))))) (by kernel_rfl) rfl rfl (vv 0 rfl (vv 1 rfl (vv 2 rfl (vv 7 rfl (vv 8 rfl (vv 10 rfl (vv 119 rfl (vv 121 rfl (vv 130 rfl vn))))))))) fun a55 w55 hD gS s55 => ?_
                  have z55 := z53.grown gS (fun x _ e => by injection e with e; exact e.symm)
                  refine chainK 1 (cc rfl (p_idxVD (i := (j - 1)) (by omega) g0 (od rfl id) (od rfl id)) cn) (by kernel_rfl) s55 fun a56 w56 b56 s56 => ?_
                  have z56 := z55.below b56
                  have hD := hD.below b56
                  show wpList _ _ _ (_ :: _) _ _
                  refine storeD_on (i := (j - 1)) (x := d3[j]!) s56 rfl rfl rfl (s56.get 132 rfl) (s56.get 130 rfl) hD (by omega) (vv 0 rfl (vv 1 rfl (vv 2 rfl (vv 7 rfl (vv 8 rfl (vv 10 rfl vn)))))) fun a57 w57 hD gS s57 => ?_
                  have z57 := z56.grown gS (fun x _ e => by injection e with e; exact e.symm)
                  have hD : RowD w57 g cap n (swp d3 j (j - 1)) := hD
                  refine wpList_done ?_
                  refine flowT (s57.keep (sc 0 rfl (sc 1 rfl (sc 2 rfl (sc 7 rfl (sc 8 rfl (sc 10 rfl sn))))))) (by kernel_rfl) (cc rfl (p_move g0 (od rfl id))
                      (cc rfl (p_binC (m' := ((j + 1 : Nat) : Int)) (fun _ => by rw [IntKind.wrap_i64]; omega) g0 (od rfl id) (oc _) b_add_3)
                      (cc rfl (p_assign g0 (od rfl id)) cn))) fun a58 w58 b58 s58 => ?_
                  have z58 := z57.below b58
                  have hD := hD.below b58
                  exact ⟨b - (j + 1), by omega, j + 1, _, rfl, by omega, by omega, hD, hsh, z58, s58.to _ ⟨rfl, rfl, rfl, rfl, rfl, rfl, True.intro⟩⟩
              · -- false
                have hjlt : ¬ j < b := by have h2 := of_decide_eq_false h103; (try dsimp only at h2); omega
                rw [shu_end hjlt] at hsh
                rw [hsh] at hD
                refine wp_exit ?_
                refine flowT (s52.keep (sc 0 rfl (sc 1 rfl (sc 2 rfl (sc 7 rfl (sc 8 rfl (sc 10 rfl (sc 101 rfl (sc 102 rfl (sc 103 rfl sn)))))))))) (by kernel_rfl) (cc rfl (p_move g0 (od rfl id))
                    (cc rfl (p_binC (m' := ((q + 1 : Nat) : Int)) (fun _ => by rw [IntKind.wrap_i64]; omega) g0 (od rfl id) (oc _) b_add_3)
                    (cc rfl (p_assign g0 (od rfl id)) cn))) fun a59 w59 b59 s59 => ?_
                have z59 := z52.below b59
                have hD := hD.below b59
                exact ⟨5 - (q + 1), by omega, i, q + 1, _, rfl, by omega, by omega, by omega, hD, heq, z59, s59.to _ ⟨rfl, rfl, rfl, rfl, rfl, True.intro⟩⟩
            · -- false
              have h2b : ¬ 2 ≤ b - i := by have h2 := of_decide_eq_false h98; (try dsimp only at h2); omega
              have hfu : fixUp ltInt b i D2 = D2 := fu_no h2b
              rw [pin_go hI0 hne hs hfd hfu, show 4 - q = 5 - (q + 1) by omega] at heq
              refine wp_skip ?_
              refine flowT (s49.keep (sc 0 rfl (sc 1 rfl (sc 2 rfl (sc 7 rfl (sc 8 rfl (sc 58 rfl (sc 59 rfl (sc 60 rfl (sc 61 rfl (sc 95 rfl (sc 96 rfl (sc 97 rfl (sc 98 rfl sn)))))))))))))) (by kernel_rfl) (cc rfl (p_move g0 (od rfl id))
                  (cc rfl (p_binC (m' := ((q + 1 : Nat) : Int)) (fun _ => by rw [IntKind.wrap_i64]; omega) g0 (od rfl id) (oc _) b_add_3)
                  (cc rfl (p_assign g0 (od rfl id)) cn))) fun a60 w60 b60 s60 => ?_
              have z60 := z49.below b60
              have hD := hD.below b60
              exact ⟨5 - (q + 1), by omega, i, q + 1, _, rfl, by omega, by omega, by omega, hD, heq, z60, s60.to _ ⟨rfl, rfl, rfl, rfl, rfl, True.intro⟩⟩
  · -- false
    have hq5 : q = 5 := by have h2 := of_decide_eq_false h14; (try dsimp only at h2); omega
    subst hq5
    have heq : (d1, false) = TT := heq
    refine wp_exit ?_
    refine wp_seq ?_
    refine flowC mixed (s5.keep (sc 0 rfl (sc 1 rfl (sc 2 rfl (sc 7 rfl (sc 8 rfl sn)))))) (by kernel_rfl) (by kernel_rfl) (cc rfl (p_assign g0 (oc _)) cn) fun a61 w61 b61 s61 => ?_
    have z61 := z5.below b61
    have hD := hD.below b61
    exact wp_ret (ret_o (fn := Try.f83) (R := fun v w' => ∃ t : Array Int × Bool, partialInsertionSort ltInt d a b = t ∧ v = .bool t.2 ∧ RowD w' g cap n t.1 ∧ OnlyB (fun i => i = g) w w') s61 6 rfl rfl ⟨_, hTT.trans heq.symm, rfl, hD, z61⟩)

end Go.Proofs.Ytbeeiecbbmiojaa.Y
