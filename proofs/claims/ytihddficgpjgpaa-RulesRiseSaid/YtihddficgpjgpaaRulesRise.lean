/- RulesRise: a thread's own label and clearance only rise by its own calls, but for what it owns; what it is given at gates it owned itself, or the gate did. -/
import Derived.Test.YtihddficgpjgpaaXmath
namespace Go.Proofs.Ytihddficgpjgpaa.X
open Go.RowKit Go.ChangeShapes Go.WideShapes Go.ChangeAt

theorem rise_law1 {a b c : Lab} {i : Nat} {x : Int} (fa : Fine a) (fc : Fine c) (h : selfB (a, b) c = true) (hx : (ownsL c)[i]? = some x) : (a.lv x != 0) = false := by
  unfold selfB at h
  rw [Bool.and_eq_true] at h
  have h1 := (leqB_iff fa.good fc.good).1 h.1 x
  have h2 := (mem_owns fc.good (by have := fc.d1; omega) x).1 (List.mem_of_getElem? hx)
  have h3 := fa.lv4 x
  have : a.lv x = 0 := by omega
  rw [this]; rfl
theorem rise_law2 {a b c d h : Lab} : (giveB (a, b) h (c, d) && (!leqB a c || !leqB d b)) = false := by
  unfold giveB
  cases leqB a c <;> cases leqB d b <;> simp
theorem rise_least {a b c d p q h : Lab} (fa : Fine a) (fc : Fine c) (fp : Fine p) (he : (!enterB (a, b) h (p, q) (c, d)) = false) (x : Int) : turnF 5 0 (max (turnF 0 5 (a.lv x)) (turnF 0 5 (p.lv x))) ≤ c.lv x := by
  simp only [Bool.not_eq_false'] at he
  unfold enterB at he
  simp only [Bool.and_eq_true] at he
  have := (leqB_iff (good_least fa.good fp.good) fc.good).1 he.1.1.1.2 x
  rwa [lv_least fa.good fp.good] at this
theorem rise_law3 {a b c d p q h : Lab} {i : Nat} {x : Int} (fa : Fine a) (fc : Fine c) (fp : Fine p) (he : (!enterB (a, b) h (p, q) (c, d)) = false) (hx : (ownsL c)[i]? = some x) : ((a.lv x != 0) && (p.lv x != 0)) = false := by
  have h1 := rise_least fa fc fp he x
  have h2 := (mem_owns fc.good (by have := fc.d1; omega) x).1 (List.mem_of_getElem? hx)
  have h3 := fa.lv4 x
  have h4 := fp.lv4 x
  rw [h2] at h1
  by_cases ha : a.lv x = 0
  · rw [ha]; rfl
  by_cases hp : p.lv x = 0
  · rw [hp]; simp
  exfalso
  unfold turnF at h1
  rw [if_neg ha, if_neg hp, if_neg (by omega)] at h1
  omega
theorem rise_law4 {a b c d p q h : Lab} {i : Nat} {x : Int × Int} (fa : Fine a) (fc : Fine c) (fp : Fine p) (he : (!enterB (a, b) h (p, q) (c, d)) = false) (hx : a.ps[i]? = some x) : (decide (c.lv x.1 < x.2) && (p.lv x.1 != 0)) = false := by
  have h1 := rise_least fa fc fp he x.1
  have e : a.lv x.1 = x.2 := atP_mem _ fa.good.rise x (List.mem_of_getElem? hx)
  have h3 := fa.lv4 x.1
  have h4 := fp.lv4 x.1
  have h5 := fc.lv4 x.1
  by_cases hp : p.lv x.1 = 0
  · rw [hp]; simp
  have : ¬ c.lv x.1 < x.2 := by
    rw [← e]
    unfold turnF at h1
    rw [if_neg hp] at h1
    by_cases ha : a.lv x.1 = 0
    · omega
    · rw [if_neg ha, if_neg (by omega)] at h1
      omega
  simp [this]
set_option maxRecDepth 100000 in
theorem rulesRise_walk (w : World) (v0 v1 : Value) (a b c d p q : Lab) (h0 : (.st (Lay.arr sdL 4) [a, b, c, d] : Sym).on w noF v0) (h1 : (.st (Lay.arr sdL 2) [p, q] : Sym).on w noF v1) (fa : Fine a) (fc : Fine c) (fp : Fine p) : Calls Try.prog 19 #[v0, v1] w fun e w' => e = .returned (.bool true) ∧ Below w.heap.size w w' := by
  have hol : (ownsL c).length ≤ 1000 := by have := owns_len c; have := fc.len; omega
  have hal := fa.len
  go_enter Try.func19, Try.ntmps19
  refine wp_seq ?_
  refine flowC mixed (st0 (U := True) (N := 129) (e := [(0, true, .st (Lay.arr sdL 4) [a, b, c, d]), (1, true, .st (Lay.arr sdL 2) [p, q])]) (F := noF) rfl rfl (fok_none True w) ⟨⟨rfl, h0⟩, ⟨⟨rfl, h1⟩, True.intro⟩⟩) (by kernel_rfl) (by kernel_rfl) (cc rfl (p_box bx_74 g0 (od rfl id))
      (cc rfl (p_box bx_80 g0 (od rfl id))
      (cc rfl (p_assign g0 (oc _)) cn))) fun a1 w1 b1 s1 => ?_
  have z1 := b1
  refine wp_seq ?_
  refine wp_seq ?_
  refine flowC mixed (s1.keep (sc 2 rfl (sc 3 rfl (sc 4 rfl sn)))) (by kernel_rfl) (by kernel_rfl) (cc rfl (p_call 53 g0 ox0 (fun _ _ => by kernel_rfl) f53t)
      (cc rfl (p_not g0 (od rfl id)) cn)) fun a2 w2 b2 s2 => ?_
  have z2 := z1.trans (b2.mono z1.size)
  refine s2.cond 16 rfl (fun h => absurd h (by decide)) fun _ => ?_
  refine wp_skip ?_
  refine wp_seq ?_
  refine flowV 18 mixed (s2.keep (sc 2 rfl (sc 3 rfl (sc 4 rfl sn)))) (by kernel_rfl) (cc rfl (p_indexArr ia_74_0 rfl g0 (od rfl id))
      (cc rfl (p_load Try.underlying36 rfl sz_36 g0 (od rfl id))
      (cc rfl (p_call 36 g0 (ox (od rfl id) ox0) (fun _ _ => by kernel_rfl) f36)
      (cc rfl (p_indexArr ia_74_1 rfl g0 (od rfl id))
      (cc rfl (p_load Try.underlying36 rfl sz_36 g0 (od rfl id))
      (cc rfl (p_call 36 g0 (ox (od rfl id) ox0) (fun _ _ => by kernel_rfl) f36)
      (cc rfl (p_build2 bd_83 g0 (od rfl id) (od rfl id))
      (cc rfl (p_indexArr ia_74_2 rfl g0 (od rfl id))
      (cc rfl (p_load Try.underlying36 rfl sz_36 g0 (od rfl id))
      (cc rfl (p_call 36 g0 (ox (od rfl id) ox0) (fun _ _ => by kernel_rfl) f36)
      (cc rfl (p_indexArr ia_74_3 rfl g0 (od rfl id))
      (cc rfl (p_load Try.underlying36 rfl sz_36 g0 (od rfl id))
      (cc rfl (p_call 36 g0 (ox (od rfl id) ox0) (fun _ _ => by kernel_rfl) f36)
      (cc rfl (p_build2 bd_83 g0 (od rfl id) (od rfl id))
      (ca rfl (m_alloc al_83 nu83)
      (ca rfl (m_alloc al_83 nu83)
      (cs rfl
      (cs rfl cn)))))))))))))))))) (sv (m := 16) rfl rfl rfl rfl puts_st sz_83 (puts_nou nuw) (sv (m := 17) rfl rfl rfl rfl puts_st sz_83 (puts_nou nuw) sv0)) (by kernel_rfl) (by kernel_rfl) (by kernel_rfl) fun a3 w3 b3 s3 => ?_
  have z3 := z2.trans (b3.mono z2.size)
  refine wpList_done ?_
  refine wp_seq ?_
  refine flowQ 8 mixed (s3.keep (sc 3 rfl (sc 4 rfl (sc 5 rfl (sc 6 rfl sn))))) (by kernel_rfl) (by kernel_rfl) (cc rfl (p_indexArr ia_80_0 rfl g0 (od rfl id))
      (cc rfl (p_load Try.underlying36 rfl sz_36 g0 (od rfl id))
      (cc rfl (p_call 36 g0 (ox (od rfl id) ox0) (fun _ _ => by kernel_rfl) f36)
      (cc rfl (p_indexArr ia_80_1 rfl g0 (od rfl id))
      (cc rfl (p_load Try.underlying36 rfl sz_36 g0 (od rfl id))
      (cc rfl (p_call 36 g0 (ox (od rfl id) ox0) (fun _ _ => by kernel_rfl) f36)
      (cc rfl (p_build2 bd_83 g0 (od rfl id) (od rfl id))
      (ca rfl (m_alloc al_83 nu83) cn)))))))) (by kernel_rfl) (ss rfl rfl rfl rfl puts_st sz_83 rfl rfl ss0) fun a4 w4 b4 s4 => ?_
  have z4 := z3.trans (b4.mono z3.size)
  refine wp_seq ?_
  refine flowQ 2 mixed (s4.keep (sc 4 rfl (sc 5 rfl (sc 6 rfl (sc 7 rfl sn))))) (by kernel_rfl) (by kernel_rfl) (cc rfl (p_call 60 g0 (ox (oc _) ox0) (fun _ _ => by kernel_rfl) f60)
      (ca rfl (m_alloc al_39 nu39) cn)) (by kernel_rfl) (ss rfl rfl rfl rfl puts_st sz_39 rfl rfl ss0) fun a5 w5 b5 s5 => ?_
  have z5 := z4.trans (b5.mono z4.size)
  refine wp_seq ?_
  refine wp_seq ?_
  refine flowC mixed (s5.keep (sc 4 rfl (sc 5 rfl (sc 6 rfl (sc 7 rfl (sc 8 rfl sn)))))) (by kernel_rfl) (by kernel_rfl) (cc rfl (p_load Try.underlying83 rfl sz_83 g0 (od rfl id))
      (cc rfl (p_fieldAddr ptw0 fa_83_0 g0 (od rfl id))
      (cc rfl (p_load Try.underlying39 rfl sz_39 g0 (od rfl id))
      (cc rfl (p_call 65 g0 (ox (od rfl id) (ox (od rfl id) ox0)) (fun _ _ => by kernel_rfl) (f65 (by decide) (by decide) (by decide))) cn)))) fun a6 w6 b6 s6 => ?_
  have z6 := z5.trans (b6.mono z5.size)
  refine s6.cond 42 rfl (fun h42 => ?_) (fun h42 => ?_)
  · -- true
    refine wp_seq ?_
    refine flowC mixed (s6.keep (sc 4 rfl (sc 5 rfl (sc 6 rfl (sc 7 rfl (sc 8 rfl sn)))))) (by kernel_rfl) (by kernel_rfl) (cc rfl (p_fieldAddr ptw0 fa_83_0 g0 (od rfl id))
        (cc rfl (p_load Try.underlying39 rfl sz_39 g0 (od rfl id))
        (cc rfl (p_call 56 g0 (ox (od rfl id) ox0) (fun _ _ => by kernel_rfl) (f56 (by decide)))
        (cc rfl (p_len ln_75 g0 (od rfl id))
        (cc rfl (p_move g0 (oc _)) cn))))) fun a7 w7 b7 s7 => ?_
    have z7 := z6.trans (b7.mono z6.size)
    refine wp_block ?_
    refine wp_range ((ownsL c).length) 47 (fun i => []) (fun _ _ => True) (s7.keep (sc 47 rfl (sc 4 rfl (sc 5 rfl (sc 6 rfl (sc 7 rfl (sc 8 rfl (sc 45 rfl (sc 46 rfl sn))))))))) z7 True.intro fun i a8 w8 hi1 s8 z8 x8 => ?_
    refine wp_seq ?_
    refine flowC mixed (s8.keep (sc 4 rfl (sc 5 rfl (sc 6 rfl (sc 7 rfl (sc 8 rfl (sc 45 rfl (sc 46 rfl (sc 47 rfl sn))))))))) (by kernel_rfl) (by kernel_rfl) (cc rfl (p_bin g0 (od rfl id) (od rfl id) b_lss_3) cn) fun a9 w9 b9 s9 => ?_
    have z9 := z8.trans (b9.mono z8.size)
    refine wp_seq ?_
    refine s9.cond 48 rfl (fun h => ?_) (fun h => ?_)
    · -- true
      have hlt1 : i < (ownsL c).length := by simpa using h
      obtain ⟨ce, ece⟩ : ∃ x, (ownsL c)[i]? = some x := ⟨_, List.getElem?_eq_getElem hlt1⟩
      refine wp_skip ?_
      refine wp_seq ?_
      refine wp_block ?_
      refine wp_seq ?_
      refine flowC mixed (s9.keep (sc 4 rfl (sc 5 rfl (sc 6 rfl (sc 7 rfl (sc 8 rfl (sc 45 rfl (sc 46 rfl (sc 47 rfl (sc 48 rfl sn)))))))))) (by kernel_rfl) (by kernel_rfl) (cc rfl (p_index ix_75 ece g0 (od rfl id) (od rfl id))
          (cc rfl (p_loadI ld_70 g0 (od rfl id))
          (cc rfl (p_assign g0 (od rfl id)) cn))) fun a10 w10 b10 s10 => ?_
      have z10 := z9.trans (b10.mono z9.size)
      refine wp_seq ?_
      refine flowC mixed (s10.keep (sc 4 rfl (sc 5 rfl (sc 6 rfl (sc 7 rfl (sc 8 rfl (sc 10 rfl (sc 45 rfl (sc 46 rfl (sc 47 rfl (sc 48 rfl (sc 49 rfl (sc 50 rfl sn))))))))))))) (by kernel_rfl) (by kernel_rfl) (cc rfl (p_fieldAddr ptw0 fa_83_0 g0 (od rfl id))
          (cc rfl (p_load Try.underlying39 rfl sz_39 g0 (od rfl id))
          (cc rfl (p_move g0 (od rfl id))
          (cc rfl (p_call 51 g0 (ox (od rfl id) (ox (od rfl id) ox0)) (fun _ _ => by kernel_rfl) (f51 (by decide)))
          (cc rfl (p_bin g0 (od rfl id) (oc _) b_neq_3) cn))))) fun a11 w11 b11 s11 => ?_
      have z11 := z10.trans (b11.mono z10.size)
      refine s11.cond 55 rfl (fun h => absurd h (by rw [rise_law1 fa fc h42 ece]; decide)) fun _ => ?_
      refine wp_skip ?_
      refine flowT (s11.keep (sc 4 rfl (sc 5 rfl (sc 6 rfl (sc 7 rfl (sc 8 rfl (sc 10 rfl (sc 45 rfl (sc 46 rfl (sc 47 rfl (sc 48 rfl (sc 49 rfl (sc 50 rfl (sc 51 rfl (sc 52 rfl (sc 53 rfl (sc 54 rfl (sc 55 rfl sn)))))))))))))))))) (by kernel_rfl) (cc rfl (p_bin g0 (od rfl id) (oc _) (inc_3 (by omega)))
          (cc rfl (p_move g0 (od rfl id)) cn)) fun a12 w12 b12 s12 => ?_
      have z12 := z11.trans (b12.mono z11.size)
      exact ⟨hlt1, s12.to _ ⟨rfl, rfl, rfl, rfl, rfl, rfl, rfl, rfl, True.intro⟩, z12, True.intro⟩
    · -- false
      obtain rfl : i = (ownsL c).length := by have := of_decide_eq_false h; (try dsimp only at this); omega
      refine wp_exit ?_
      refine wp_seq ?_
      refine wp_seq ?_
      refine flowC mixed (s9.keep (sc 4 rfl (sc 5 rfl (sc 6 rfl (sc 7 rfl (sc 8 rfl (sc 45 rfl (sc 46 rfl (sc 47 rfl sn))))))))) (by kernel_rfl) (by kernel_rfl) (cc rfl (p_load Try.underlying83 rfl sz_83 g0 (od rfl id))
          (cc rfl (p_load Try.underlying39 rfl sz_39 g0 (od rfl id))
          (cc rfl (p_load Try.underlying83 rfl sz_83 g0 (od rfl id))
          (cc rfl (p_call 66 g0 (ox (od rfl id) (ox (od rfl id) (ox (od rfl id) ox0))) (fun _ _ => by kernel_rfl) (f66 (by decide) (by decide) (by decide) (by decide) (by decide)))
          (cc rfl (p_move g0 (od rfl id))
          (cc rfl (p_fieldAddr ptw0 fa_83_0 (g1 rfl rfl) (od rfl (fun _ => rfl)))
          (cc rfl (p_load Try.underlying39 rfl sz_39 (g1 rfl rfl) (od rfl id))
          (cc rfl (p_fieldAddr ptw0 fa_83_0 (g1 rfl rfl) (od rfl (fun _ => rfl)))
          (cc rfl (p_load Try.underlying39 rfl sz_39 (g1 rfl rfl) (od rfl id))
          (cc rfl (p_call 57 (g1 rfl rfl) (ox (od rfl id) (ox (od rfl id) ox0)) (fun _ _ => by kernel_rfl) (f57 (by decide)))
          (cc rfl (p_not (g1 rfl rfl) (od rfl id))
          (cc rfl (p_move (g1 rfl rfl) (od rfl id))
          (cc rfl (p_fieldAddr ptw1 fa_83_1 (g1 rfl rfl) (od rfl (fun _ => rfl)))
          (cc rfl (p_load Try.underlying39 rfl sz_39 (g1 rfl rfl) (od rfl id))
          (cc rfl (p_fieldAddr ptw1 fa_83_1 (g1 rfl rfl) (od rfl (fun _ => rfl)))
          (cc rfl (p_load Try.underlying39 rfl sz_39 (g1 rfl rfl) (od rfl id))
          (cc rfl (p_call 57 (g1 rfl rfl) (ox (od rfl id) (ox (od rfl id) ox0)) (fun _ _ => by kernel_rfl) (f57 (by decide)))
          (cc rfl (p_not (g1 rfl rfl) (od rfl id))
          (cc rfl (p_or (g1 rfl rfl) (od rfl id) (od rfl id))
          (cc rfl (p_and g0 (od rfl id) (od rfl id)) cn)))))))))))))))))))) fun a13 w13 b13 s13 => ?_
      have z13 := z9.trans (b13.mono z9.size)
      refine s13.cond 76 rfl (fun h => absurd h (by rw [rise_law2]; decide)) fun _ => ?_
      refine wp_skip ?_
      refine wp_seq ?_
      refine wp_seq ?_
      refine flowC mixed (s13.keep (sc 4 rfl (sc 5 rfl (sc 6 rfl (sc 7 rfl (sc 8 rfl (sc 45 rfl (sc 46 rfl (sc 47 rfl sn))))))))) (by kernel_rfl) (by kernel_rfl) (cc rfl (p_load Try.underlying83 rfl sz_83 g0 (od rfl id))
          (cc rfl (p_load Try.underlying39 rfl sz_39 g0 (od rfl id))
          (cc rfl (p_load Try.underlying83 rfl sz_83 g0 (od rfl id))
          (cc rfl (p_load Try.underlying83 rfl sz_83 g0 (od rfl id))
          (cc rfl (p_call 67 g0 (ox (od rfl id) (ox (od rfl id) (ox (od rfl id) (ox (od rfl id) ox0)))) (fun _ _ => by kernel_rfl) (f67 (by decide) (by decide) (by decide) (by decide) (by decide) (by decide) (by decide)))
          (cc rfl (p_not g0 (od rfl id)) cn)))))) fun a14 w14 b14 s14 => ?_
      have z14 := z13.trans (b14.mono z13.size)
      refine s14.cond 82 rfl (fun h82 => ?_) (fun h82 => ?_)
      · -- true
        refine wp_seq ?_
        refine flowT (s14.keep (sc 4 rfl (sc 5 rfl (sc 6 rfl (sc 7 rfl (sc 8 rfl (sc 45 rfl (sc 46 rfl (sc 47 rfl sn))))))))) (by kernel_rfl) (cc rfl (p_assign g0 (oc _)) cn) fun a15 w15 b15 s15 => ?_
        have z15 := z14.trans (b15.mono z14.size)
        exact wp_ret (ret_law (fn := Try.f19) s15 4 rfl rfl rfl z15)
      · -- false
        refine wp_skip ?_
        refine wp_seq ?_
        refine wp_seq ?_
        refine flowC mixed (s14.keep (sc 4 rfl (sc 5 rfl (sc 6 rfl (sc 7 rfl (sc 8 rfl (sc 45 rfl (sc 46 rfl (sc 47 rfl sn))))))))) (by kernel_rfl) (by kernel_rfl) (cc rfl (p_fieldAddr ptw0 fa_83_0 g0 (od rfl id))
            (cc rfl (p_load Try.underlying39 rfl sz_39 g0 (od rfl id))
            (cc rfl (p_call 56 g0 (ox (od rfl id) ox0) (fun _ _ => by kernel_rfl) (f56 (by decide)))
            (cc rfl (p_len ln_75 g0 (od rfl id))
            (cc rfl (p_move g0 (oc _)) cn))))) fun a16 w16 b16 s16 => ?_
        have z16 := z14.trans (b16.mono z14.size)
        refine wp_block ?_
        refine wp_range ((ownsL c).length) 87 (fun i => []) (fun _ _ => True) (s16.keep (sc 87 rfl (sc 4 rfl (sc 5 rfl (sc 6 rfl (sc 7 rfl (sc 8 rfl (sc 45 rfl (sc 46 rfl (sc 47 rfl (sc 85 rfl (sc 86 rfl sn)))))))))))) z16 True.intro fun i a17 w17 hi2 s17 z17 x17 => ?_
        refine wp_seq ?_
        refine flowC mixed (s17.keep (sc 4 rfl (sc 5 rfl (sc 6 rfl (sc 7 rfl (sc 8 rfl (sc 45 rfl (sc 46 rfl (sc 47 rfl (sc 85 rfl (sc 86 rfl (sc 87 rfl sn)))))))))))) (by kernel_rfl) (by kernel_rfl) (cc rfl (p_bin g0 (od rfl id) (od rfl id) b_lss_3) cn) fun a18 w18 b18 s18 => ?_
        have z18 := z17.trans (b18.mono z17.size)
        refine wp_seq ?_
        refine s18.cond 88 rfl (fun h => ?_) (fun h => ?_)
        · -- true
          have hlt2 : i < (ownsL c).length := by simpa using h
          obtain ⟨ce, ece⟩ : ∃ x, (ownsL c)[i]? = some x := ⟨_, List.getElem?_eq_getElem hlt2⟩
          refine wp_skip ?_
          refine wp_seq ?_
          refine wp_block ?_
          refine wp_seq ?_
          refine flowC mixed (s18.keep (sc 4 rfl (sc 5 rfl (sc 6 rfl (sc 7 rfl (sc 8 rfl (sc 45 rfl (sc 46 rfl (sc 47 rfl (sc 85 rfl (sc 86 rfl (sc 87 rfl (sc 88 rfl sn))))))))))))) (by kernel_rfl) (by kernel_rfl) (cc rfl (p_index ix_75 ece g0 (od rfl id) (od rfl id))
              (cc rfl (p_loadI ld_70 g0 (od rfl id))
              (cc rfl (p_assign g0 (od rfl id)) cn))) fun a19 w19 b19 s19 => ?_
          have z19 := z18.trans (b19.mono z18.size)
          refine wp_seq ?_
          refine flowC mixed (s19.keep (sc 4 rfl (sc 5 rfl (sc 6 rfl (sc 7 rfl (sc 8 rfl (sc 12 rfl (sc 45 rfl (sc 46 rfl (sc 47 rfl (sc 85 rfl (sc 86 rfl (sc 87 rfl (sc 88 rfl (sc 89 rfl (sc 90 rfl sn)))))))))))))))) (by kernel_rfl) (by kernel_rfl) (cc rfl (p_fieldAddr ptw0 fa_83_0 g0 (od rfl id))
              (cc rfl (p_load Try.underlying39 rfl sz_39 g0 (od rfl id))
              (cc rfl (p_move g0 (od rfl id))
              (cc rfl (p_call 51 g0 (ox (od rfl id) (ox (od rfl id) ox0)) (fun _ _ => by kernel_rfl) (f51 (by decide)))
              (cc rfl (p_bin g0 (od rfl id) (oc _) b_neq_3)
              (cc rfl (p_move g0 (od rfl id))
              (cc rfl (p_fieldAddr ptw0 fa_83_0 (g1 rfl rfl) (od rfl (fun _ => rfl)))
              (cc rfl (p_load Try.underlying39 rfl sz_39 (g1 rfl rfl) (od rfl id))
              (cc rfl (p_move (g1 rfl rfl) (od rfl (fun _ => rfl)))
              (cc rfl (p_call 51 (g1 rfl rfl) (ox (od rfl id) (ox (od rfl id) ox0)) (fun _ _ => by kernel_rfl) (f51 (by decide)))
              (cc rfl (p_bin (g1 rfl rfl) (od rfl id) (oc _) b_neq_3)
              (cc rfl (p_and g0 (od rfl id) (od rfl id)) cn)))))))))))) fun a20 w20 b20 s20 => ?_
          have z20 := z19.trans (b20.mono z19.size)
          refine s20.cond 102 rfl (fun h => absurd h (by rw [rise_law3 fa fc fp h82 ece]; decide)) fun _ => ?_
          refine wp_skip ?_
          refine flowT (s20.keep (sc 4 rfl (sc 5 rfl (sc 6 rfl (sc 7 rfl (sc 8 rfl (sc 12 rfl (sc 45 rfl (sc 46 rfl (sc 47 rfl (sc 85 rfl (sc 86 rfl (sc 87 rfl (sc 88 rfl (sc 89 rfl (sc 90 rfl (sc 91 rfl (sc 92 rfl (sc 93 rfl (sc 94 rfl (sc 95 rfl (sc 96 rfl (sc 97 rfl (sc 98 rfl (sc 99 rfl (sc 100 rfl (sc 101 rfl (sc 102 rfl sn)))))))))))))))))))))))))))) (by kernel_rfl) (cc rfl (p_bin g0 (od rfl id) (oc _) (inc_3 (by omega)))
              (cc rfl (p_move g0 (od rfl id)) cn)) fun a21 w21 b21 s21 => ?_
          have z21 := z20.trans (b21.mono z20.size)
          exact ⟨hlt2, s21.to _ ⟨rfl, rfl, rfl, rfl, rfl, rfl, rfl, rfl, rfl, rfl, rfl, True.intro⟩, z21, True.intro⟩
        · -- false
          obtain rfl : i = (ownsL c).length := by have := of_decide_eq_false h; (try dsimp only at this); omega
          refine wp_exit ?_
          refine wp_seq ?_
          refine wp_seq ?_
          refine flowC mixed (s18.keep (sc 4 rfl (sc 5 rfl (sc 6 rfl (sc 7 rfl (sc 8 rfl (sc 45 rfl (sc 46 rfl (sc 47 rfl (sc 85 rfl (sc 86 rfl (sc 87 rfl sn)))))))))))) (by kernel_rfl) (by kernel_rfl) (cc rfl (p_fieldAddr ptw0 fa_83_0 g0 (od rfl id))
              (cc rfl (p_fieldAddr pt39_1 fa_39_1 g0 (od rfl id))
              (cc rfl (p_load1 rfl ld_37 g0 (od rfl id))
              (cc rfl (p_len ln_37 g0 (od rfl id))
              (cc rfl (p_move g0 (oc _)) cn))))) fun a22 w22 b22 s22 => ?_
          have z22 := z18.trans (b22.mono z18.size)
          have s22 := s22.weak
          refine wp_block ?_
          refine wp_range a.ps.length 108 (fun i => []) (fun _ _ => True) (s22.keep (sc 108 rfl (sc 4 rfl (sc 5 rfl (sc 6 rfl (sc 7 rfl (sc 8 rfl (sc 45 rfl (sc 46 rfl (sc 47 rfl (sc 85 rfl (sc 86 rfl (sc 87 rfl (sc 106 rfl (sc 107 rfl sn))))))))))))))) z22 True.intro fun i a23 w23 hi3 s23 z23 x23 => ?_
          refine wp_seq ?_
          refine flowC mixed (s23.keep (sc 4 rfl (sc 5 rfl (sc 6 rfl (sc 7 rfl (sc 8 rfl (sc 45 rfl (sc 46 rfl (sc 47 rfl (sc 85 rfl (sc 86 rfl (sc 87 rfl (sc 106 rfl (sc 107 rfl (sc 108 rfl sn))))))))))))))) (by kernel_rfl) (by kernel_rfl) (cc rfl (p_bin g0 (od rfl id) (od rfl id) b_lss_3) cn) fun a24 w24 b24 s24 => ?_
          have z24 := z23.trans (b24.mono z23.size)
          refine wp_seq ?_
          refine s24.cond 109 rfl (fun h => ?_) (fun h => ?_)
          · -- true
            have hlt3 : i < a.ps.length := by simpa using h
            obtain ⟨pe, epe⟩ : ∃ x, a.ps[i]? = some x := ⟨_, List.getElem?_eq_getElem hlt3⟩
            refine wp_skip ?_
            refine wp_seq ?_
            refine wp_block ?_
            refine wp_seq ?_
            refine flowQ 3 mixed (s24.keep (sc 4 rfl (sc 5 rfl (sc 6 rfl (sc 7 rfl (sc 8 rfl (sc 45 rfl (sc 46 rfl (sc 47 rfl (sc 85 rfl (sc 86 rfl (sc 87 rfl (sc 106 rfl (sc 107 rfl (sc 108 rfl (sc 109 rfl sn)))))))))))))))) (by kernel_rfl) (by kernel_rfl) (cc rfl (p_index ix_37 epe g0 (od rfl id) (od rfl id))
                (cc rfl (p_load Try.underlying90 rfl sz_90 g0 (od rfl id))
                (ca rfl (m_alloc al_90 (fun h => h.elim)) cn))) (by kernel_rfl) (ss rfl rfl rfl rfl puts_st sz_90 rfl rfl ss0) fun a25 w25 b25 s25 => ?_
            have z25 := z24.trans (b25.mono z24.size)
            refine wp_seq ?_
            refine flowC mixed (s25.keep (sc 4 rfl (sc 5 rfl (sc 6 rfl (sc 7 rfl (sc 8 rfl (sc 14 rfl (sc 45 rfl (sc 46 rfl (sc 47 rfl (sc 85 rfl (sc 86 rfl (sc 87 rfl (sc 106 rfl (sc 107 rfl (sc 108 rfl (sc 109 rfl (sc 110 rfl (sc 111 rfl sn))))))))))))))))))) (by kernel_rfl) (by kernel_rfl) (cc rfl (p_fieldAddr ptw0 fa_83_0 g0 (od rfl id))
                (cc rfl (p_load Try.underlying39 rfl sz_39 g0 (od rfl id))
                (cc rfl (p_fieldAddr pt90_0 fa_90_0 g0 (od rfl id))
                (cc rfl (p_loadI ld_70 g0 (od rfl id))
                (cc rfl (p_call 51 g0 (ox (od rfl id) (ox (od rfl id) ox0)) (fun _ _ => by kernel_rfl) (f51 (by decide)))
                (cc rfl (p_fieldAddr pt90_1 fa_90_1 g0 (od rfl id))
                (cc rfl (p_loadI ld_3 g0 (od rfl id))
                (cc rfl (p_bin g0 (od rfl id) (od rfl id) b_lss_3)
                (cc rfl (p_move g0 (od rfl id))
                (cc rfl (p_fieldAddr ptw0 fa_83_0 (g1 rfl rfl) (od rfl (fun _ => rfl)))
                (cc rfl (p_load Try.underlying39 rfl sz_39 (g1 rfl rfl) (od rfl id))
                (cc rfl (p_fieldAddr pt90_0 fa_90_0 (g1 rfl rfl) (od rfl (fun _ => rfl)))
                (cc rfl (p_loadI ld_70 (g1 rfl rfl) (od rfl id))
                (cc rfl (p_call 51 (g1 rfl rfl) (ox (od rfl id) (ox (od rfl id) ox0)) (fun _ _ => by kernel_rfl) (f51 (by decide)))
                (cc rfl (p_bin (g1 rfl rfl) (od rfl id) (oc _) b_neq_3)
                (cc rfl (p_and g0 (od rfl id) (od rfl id)) cn)))))))))))))))) fun a26 w26 b26 s26 => ?_
            have z26 := z25.trans (b26.mono z25.size)
            refine s26.cond 127 rfl (fun h => absurd h (by rw [rise_law4 fa fc fp h82 epe]; decide)) fun _ => ?_
            refine wp_skip ?_
            refine flowT (s26.keep (sc 4 rfl (sc 5 rfl (sc 6 rfl (sc 7 rfl (sc 8 rfl (sc 14 rfl (sc 45 rfl (sc 46 rfl (sc 47 rfl (sc 85 rfl (sc 86 rfl (sc 87 rfl (sc 106 rfl (sc 107 rfl (sc 108 rfl (sc 109 rfl (sc 110 rfl (sc 111 rfl (sc 112 rfl (sc 113 rfl (sc 114 rfl (sc 115 rfl (sc 116 rfl (sc 117 rfl (sc 118 rfl (sc 119 rfl (sc 120 rfl (sc 121 rfl (sc 122 rfl (sc 123 rfl (sc 124 rfl (sc 125 rfl (sc 126 rfl (sc 127 rfl sn))))))))))))))))))))))))))))))))))) (by kernel_rfl) (cc rfl (p_bin g0 (od rfl id) (oc _) (inc_3 (by omega)))
                (cc rfl (p_move g0 (od rfl id)) cn)) fun a27 w27 b27 s27 => ?_
            have z27 := z26.trans (b27.mono z26.size)
            exact ⟨hlt3, s27.to _ ⟨rfl, rfl, rfl, rfl, rfl, rfl, rfl, rfl, rfl, rfl, rfl, rfl, rfl, rfl, True.intro⟩, z27, True.intro⟩
          · -- false
            obtain rfl : i = a.ps.length := by have := of_decide_eq_false h; (try dsimp only at this); omega
            refine wp_exit ?_
            refine wp_seq ?_
            refine flowT (s24.keep (sc 4 rfl (sc 5 rfl (sc 6 rfl (sc 7 rfl (sc 8 rfl (sc 45 rfl (sc 46 rfl (sc 47 rfl (sc 85 rfl (sc 86 rfl (sc 87 rfl (sc 106 rfl (sc 107 rfl (sc 108 rfl sn))))))))))))))) (by kernel_rfl) (cc rfl (p_assign g0 (oc _)) cn) fun a28 w28 b28 s28 => ?_
            have z28 := z24.trans (b28.mono z24.size)
            exact wp_ret (ret_law (fn := Try.f19) s28 4 rfl rfl rfl z28)
  · -- false
    refine wp_skip ?_
    refine wp_seq ?_
    refine wp_seq ?_
    refine flowC mixed (s6.keep (sc 4 rfl (sc 5 rfl (sc 6 rfl (sc 7 rfl (sc 8 rfl sn)))))) (by kernel_rfl) (by kernel_rfl) (cc rfl (p_load Try.underlying83 rfl sz_83 g0 (od rfl id))
        (cc rfl (p_load Try.underlying39 rfl sz_39 g0 (od rfl id))
        (cc rfl (p_load Try.underlying83 rfl sz_83 g0 (od rfl id))
        (cc rfl (p_call 66 g0 (ox (od rfl id) (ox (od rfl id) (ox (od rfl id) ox0))) (fun _ _ => by kernel_rfl) (f66 (by decide) (by decide) (by decide) (by decide) (by decide)))
        (cc rfl (p_move g0 (od rfl id))
        (cc rfl (p_fieldAddr ptw0 fa_83_0 (g1 rfl rfl) (od rfl (fun _ => rfl)))
        (cc rfl (p_load Try.underlying39 rfl sz_39 (g1 rfl rfl) (od rfl id))
        (cc rfl (p_fieldAddr ptw0 fa_83_0 (g1 rfl rfl) (od rfl (fun _ => rfl)))
        (cc rfl (p_load Try.underlying39 rfl sz_39 (g1 rfl rfl) (od rfl id))
        (cc rfl (p_call 57 (g1 rfl rfl) (ox (od rfl id) (ox (od rfl id) ox0)) (fun _ _ => by kernel_rfl) (f57 (by decide)))
        (cc rfl (p_not (g1 rfl rfl) (od rfl id))
        (cc rfl (p_move (g1 rfl rfl) (od rfl id))
        (cc rfl (p_fieldAddr ptw1 fa_83_1 (g1 rfl rfl) (od rfl (fun _ => rfl)))
        (cc rfl (p_load Try.underlying39 rfl sz_39 (g1 rfl rfl) (od rfl id))
        (cc rfl (p_fieldAddr ptw1 fa_83_1 (g1 rfl rfl) (od rfl (fun _ => rfl)))
        (cc rfl (p_load Try.underlying39 rfl sz_39 (g1 rfl rfl) (od rfl id))
        (cc rfl (p_call 57 (g1 rfl rfl) (ox (od rfl id) (ox (od rfl id) ox0)) (fun _ _ => by kernel_rfl) (f57 (by decide)))
        (cc rfl (p_not (g1 rfl rfl) (od rfl id))
        (cc rfl (p_or (g1 rfl rfl) (od rfl id) (od rfl id))
        (cc rfl (p_and g0 (od rfl id) (od rfl id)) cn)))))))))))))))))))) fun a29 w29 b29 s29 => ?_
    have z29 := z6.trans (b29.mono z6.size)
    refine s29.cond 76 rfl (fun h => absurd h (by rw [rise_law2]; decide)) fun _ => ?_
    refine wp_skip ?_
    refine wp_seq ?_
    refine wp_seq ?_
    refine flowC mixed (s29.keep (sc 4 rfl (sc 5 rfl (sc 6 rfl (sc 7 rfl (sc 8 rfl sn)))))) (by kernel_rfl) (by kernel_rfl) (cc rfl (p_load Try.underlying83 rfl sz_83 g0 (od rfl id))
        (cc rfl (p_load Try.underlying39 rfl sz_39 g0 (od rfl id))
        (cc rfl (p_load Try.underlying83 rfl sz_83 g0 (od rfl id))
        (cc rfl (p_load Try.underlying83 rfl sz_83 g0 (od rfl id))
        (cc rfl (p_call 67 g0 (ox (od rfl id) (ox (od rfl id) (ox (od rfl id) (ox (od rfl id) ox0)))) (fun _ _ => by kernel_rfl) (f67 (by decide) (by decide) (by decide) (by decide) (by decide) (by decide) (by decide)))
        (cc rfl (p_not g0 (od rfl id)) cn)))))) fun a30 w30 b30 s30 => ?_
    have z30 := z29.trans (b30.mono z29.size)
    refine s30.cond 82 rfl (fun h82 => ?_) (fun h82 => ?_)
    · -- true
      refine wp_seq ?_
      refine flowT (s30.keep (sc 4 rfl (sc 5 rfl (sc 6 rfl (sc 7 rfl sn))))) (by kernel_rfl) (cc rfl (p_assign g0 (oc _)) cn) fun a31 w31 b31 s31 => ?_
      have z31 := z30.trans (b31.mono z30.size)
      exact wp_ret (ret_law (fn := Try.f19) s31 4 rfl rfl rfl z31)
    · -- false
      refine wp_skip ?_
      refine wp_seq ?_
      refine wp_seq ?_
      refine flowC mixed (s30.keep (sc 4 rfl (sc 5 rfl (sc 6 rfl (sc 7 rfl sn))))) (by kernel_rfl) (by kernel_rfl) (cc rfl (p_fieldAddr ptw0 fa_83_0 g0 (od rfl id))
          (cc rfl (p_load Try.underlying39 rfl sz_39 g0 (od rfl id))
          (cc rfl (p_call 56 g0 (ox (od rfl id) ox0) (fun _ _ => by kernel_rfl) (f56 (by decide)))
          (cc rfl (p_len ln_75 g0 (od rfl id))
          (cc rfl (p_move g0 (oc _)) cn))))) fun a32 w32 b32 s32 => ?_
      have z32 := z30.trans (b32.mono z30.size)
      refine wp_block ?_
      refine wp_range ((ownsL c).length) 87 (fun i => []) (fun _ _ => True) (s32.keep (sc 87 rfl (sc 4 rfl (sc 5 rfl (sc 6 rfl (sc 7 rfl (sc 85 rfl (sc 86 rfl sn)))))))) z32 True.intro fun i a33 w33 hi4 s33 z33 x33 => ?_
      refine wp_seq ?_
      refine flowC mixed (s33.keep (sc 4 rfl (sc 5 rfl (sc 6 rfl (sc 7 rfl (sc 85 rfl (sc 86 rfl (sc 87 rfl sn)))))))) (by kernel_rfl) (by kernel_rfl) (cc rfl (p_bin g0 (od rfl id) (od rfl id) b_lss_3) cn) fun a34 w34 b34 s34 => ?_
      have z34 := z33.trans (b34.mono z33.size)
      refine wp_seq ?_
      refine s34.cond 88 rfl (fun h => ?_) (fun h => ?_)
      · -- true
        have hlt4 : i < (ownsL c).length := by simpa using h
        obtain ⟨ce, ece⟩ : ∃ x, (ownsL c)[i]? = some x := ⟨_, List.getElem?_eq_getElem hlt4⟩
        refine wp_skip ?_
        refine wp_seq ?_
        refine wp_block ?_
        refine wp_seq ?_
        refine flowC mixed (s34.keep (sc 4 rfl (sc 5 rfl (sc 6 rfl (sc 7 rfl (sc 85 rfl (sc 86 rfl (sc 87 rfl (sc 88 rfl sn))))))))) (by kernel_rfl) (by kernel_rfl) (cc rfl (p_index ix_75 ece g0 (od rfl id) (od rfl id))
            (cc rfl (p_loadI ld_70 g0 (od rfl id))
            (cc rfl (p_assign g0 (od rfl id)) cn))) fun a35 w35 b35 s35 => ?_
        have z35 := z34.trans (b35.mono z34.size)
        refine wp_seq ?_
        refine flowC mixed (s35.keep (sc 4 rfl (sc 5 rfl (sc 6 rfl (sc 7 rfl (sc 12 rfl (sc 85 rfl (sc 86 rfl (sc 87 rfl (sc 88 rfl (sc 89 rfl (sc 90 rfl sn)))))))))))) (by kernel_rfl) (by kernel_rfl) (cc rfl (p_fieldAddr ptw0 fa_83_0 g0 (od rfl id))
            (cc rfl (p_load Try.underlying39 rfl sz_39 g0 (od rfl id))
            (cc rfl (p_move g0 (od rfl id))
            (cc rfl (p_call 51 g0 (ox (od rfl id) (ox (od rfl id) ox0)) (fun _ _ => by kernel_rfl) (f51 (by decide)))
            (cc rfl (p_bin g0 (od rfl id) (oc _) b_neq_3)
            (cc rfl (p_move g0 (od rfl id))
            (cc rfl (p_fieldAddr ptw0 fa_83_0 (g1 rfl rfl) (od rfl (fun _ => rfl)))
            (cc rfl (p_load Try.underlying39 rfl sz_39 (g1 rfl rfl) (od rfl id))
            (cc rfl (p_move (g1 rfl rfl) (od rfl (fun _ => rfl)))
            (cc rfl (p_call 51 (g1 rfl rfl) (ox (od rfl id) (ox (od rfl id) ox0)) (fun _ _ => by kernel_rfl) (f51 (by decide)))
            (cc rfl (p_bin (g1 rfl rfl) (od rfl id) (oc _) b_neq_3)
            (cc rfl (p_and g0 (od rfl id) (od rfl id)) cn)))))))))))) fun a36 w36 b36 s36 => ?_
        have z36 := z35.trans (b36.mono z35.size)
        refine s36.cond 102 rfl (fun h => absurd h (by rw [rise_law3 fa fc fp h82 ece]; decide)) fun _ => ?_
        refine wp_skip ?_
        refine flowT (s36.keep (sc 4 rfl (sc 5 rfl (sc 6 rfl (sc 7 rfl (sc 12 rfl (sc 85 rfl (sc 86 rfl (sc 87 rfl (sc 88 rfl (sc 89 rfl (sc 90 rfl (sc 91 rfl (sc 92 rfl (sc 93 rfl (sc 94 rfl (sc 95 rfl (sc 96 rfl (sc 97 rfl (sc 98 rfl (sc 99 rfl (sc 100 rfl (sc 101 rfl (sc 102 rfl sn)))))))))))))))))))))))) (by kernel_rfl) (cc rfl (p_bin g0 (od rfl id) (oc _) (inc_3 (by omega)))
            (cc rfl (p_move g0 (od rfl id)) cn)) fun a37 w37 b37 s37 => ?_
        have z37 := z36.trans (b37.mono z36.size)
        exact ⟨hlt4, s37.to _ ⟨rfl, rfl, rfl, rfl, rfl, rfl, rfl, True.intro⟩, z37, True.intro⟩
      · -- false
        obtain rfl : i = (ownsL c).length := by have := of_decide_eq_false h; (try dsimp only at this); omega
        refine wp_exit ?_
        refine wp_seq ?_
        refine wp_seq ?_
        refine flowC mixed (s34.keep (sc 4 rfl (sc 5 rfl (sc 6 rfl (sc 7 rfl (sc 85 rfl (sc 86 rfl (sc 87 rfl sn)))))))) (by kernel_rfl) (by kernel_rfl) (cc rfl (p_fieldAddr ptw0 fa_83_0 g0 (od rfl id))
            (cc rfl (p_fieldAddr pt39_1 fa_39_1 g0 (od rfl id))
            (cc rfl (p_load1 rfl ld_37 g0 (od rfl id))
            (cc rfl (p_len ln_37 g0 (od rfl id))
            (cc rfl (p_move g0 (oc _)) cn))))) fun a38 w38 b38 s38 => ?_
        have z38 := z34.trans (b38.mono z34.size)
        have s38 := s38.weak
        refine wp_block ?_
        refine wp_range a.ps.length 108 (fun i => []) (fun _ _ => True) (s38.keep (sc 108 rfl (sc 4 rfl (sc 5 rfl (sc 6 rfl (sc 7 rfl (sc 85 rfl (sc 86 rfl (sc 87 rfl (sc 106 rfl (sc 107 rfl sn))))))))))) z38 True.intro fun i a39 w39 hi5 s39 z39 x39 => ?_
        refine wp_seq ?_
        refine flowC mixed (s39.keep (sc 4 rfl (sc 5 rfl (sc 6 rfl (sc 7 rfl (sc 85 rfl (sc 86 rfl (sc 87 rfl (sc 106 rfl (sc 107 rfl (sc 108 rfl sn))))))))))) (by kernel_rfl) (by kernel_rfl) (cc rfl (p_bin g0 (od rfl id) (od rfl id) b_lss_3) cn) fun a40 w40 b40 s40 => ?_
        have z40 := z39.trans (b40.mono z39.size)
        refine wp_seq ?_
        refine s40.cond 109 rfl (fun h => ?_) (fun h => ?_)
        · -- true
          have hlt5 : i < a.ps.length := by simpa using h
          obtain ⟨pe, epe⟩ : ∃ x, a.ps[i]? = some x := ⟨_, List.getElem?_eq_getElem hlt5⟩
          refine wp_skip ?_
          refine wp_seq ?_
          refine wp_block ?_
          refine wp_seq ?_
          refine flowQ 3 mixed (s40.keep (sc 4 rfl (sc 5 rfl (sc 6 rfl (sc 7 rfl (sc 85 rfl (sc 86 rfl (sc 87 rfl (sc 106 rfl (sc 107 rfl (sc 108 rfl (sc 109 rfl sn)))))))))))) (by kernel_rfl) (by kernel_rfl) (cc rfl (p_index ix_37 epe g0 (od rfl id) (od rfl id))
              (cc rfl (p_load Try.underlying90 rfl sz_90 g0 (od rfl id))
              (ca rfl (m_alloc al_90 (fun h => h.elim)) cn))) (by kernel_rfl) (ss rfl rfl rfl rfl puts_st sz_90 rfl rfl ss0) fun a41 w41 b41 s41 => ?_
          have z41 := z40.trans (b41.mono z40.size)
          refine wp_seq ?_
          refine flowC mixed (s41.keep (sc 4 rfl (sc 5 rfl (sc 6 rfl (sc 7 rfl (sc 14 rfl (sc 85 rfl (sc 86 rfl (sc 87 rfl (sc 106 rfl (sc 107 rfl (sc 108 rfl (sc 109 rfl (sc 110 rfl (sc 111 rfl sn))))))))))))))) (by kernel_rfl) (by kernel_rfl) (cc rfl (p_fieldAddr ptw0 fa_83_0 g0 (od rfl id))
              (cc rfl (p_load Try.underlying39 rfl sz_39 g0 (od rfl id))
              (cc rfl (p_fieldAddr pt90_0 fa_90_0 g0 (od rfl id))
              (cc rfl (p_loadI ld_70 g0 (od rfl id))
              (cc rfl (p_call 51 g0 (ox (od rfl id) (ox (od rfl id) ox0)) (fun _ _ => by kernel_rfl) (f51 (by decide)))
              (cc rfl (p_fieldAddr pt90_1 fa_90_1 g0 (od rfl id))
              (cc rfl (p_loadI ld_3 g0 (od rfl id))
              (cc rfl (p_bin g0 (od rfl id) (od rfl id) b_lss_3)
              (cc rfl (p_move g0 (od rfl id))
              (cc rfl (p_fieldAddr ptw0 fa_83_0 (g1 rfl rfl) (od rfl (fun _ => rfl)))
              (cc rfl (p_load Try.underlying39 rfl sz_39 (g1 rfl rfl) (od rfl id))
              (cc rfl (p_fieldAddr pt90_0 fa_90_0 (g1 rfl rfl) (od rfl (fun _ => rfl)))
              (cc rfl (p_loadI ld_70 (g1 rfl rfl) (od rfl id))
              (cc rfl (p_call 51 (g1 rfl rfl) (ox (od rfl id) (ox (od rfl id) ox0)) (fun _ _ => by kernel_rfl) (f51 (by decide)))
              (cc rfl (p_bin (g1 rfl rfl) (od rfl id) (oc _) b_neq_3)
              (cc rfl (p_and g0 (od rfl id) (od rfl id)) cn)))))))))))))))) fun a42 w42 b42 s42 => ?_
          have z42 := z41.trans (b42.mono z41.size)
          refine s42.cond 127 rfl (fun h => absurd h (by rw [rise_law4 fa fc fp h82 epe]; decide)) fun _ => ?_
          refine wp_skip ?_
          refine flowT (s42.keep (sc 4 rfl (sc 5 rfl (sc 6 rfl (sc 7 rfl (sc 14 rfl (sc 85 rfl (sc 86 rfl (sc 87 rfl (sc 106 rfl (sc 107 rfl (sc 108 rfl (sc 109 rfl (sc 110 rfl (sc 111 rfl (sc 112 rfl (sc 113 rfl (sc 114 rfl (sc 115 rfl (sc 116 rfl (sc 117 rfl (sc 118 rfl (sc 119 rfl (sc 120 rfl (sc 121 rfl (sc 122 rfl (sc 123 rfl (sc 124 rfl (sc 125 rfl (sc 126 rfl (sc 127 rfl sn))))))))))))))))))))))))))))))) (by kernel_rfl) (cc rfl (p_bin g0 (od rfl id) (oc _) (inc_3 (by omega)))
              (cc rfl (p_move g0 (od rfl id)) cn)) fun a43 w43 b43 s43 => ?_
          have z43 := z42.trans (b43.mono z42.size)
          exact ⟨hlt5, s43.to _ ⟨rfl, rfl, rfl, rfl, rfl, rfl, rfl, rfl, rfl, rfl, True.intro⟩, z43, True.intro⟩
        · -- false
          obtain rfl : i = a.ps.length := by have := of_decide_eq_false h; (try dsimp only at this); omega
          refine wp_exit ?_
          refine wp_seq ?_
          refine flowT (s40.keep (sc 4 rfl (sc 5 rfl (sc 6 rfl (sc 7 rfl (sc 85 rfl (sc 86 rfl (sc 87 rfl (sc 106 rfl (sc 107 rfl (sc 108 rfl sn))))))))))) (by kernel_rfl) (cc rfl (p_assign g0 (oc _)) cn) fun a44 w44 b44 s44 => ?_
          have z44 := z40.trans (b44.mono z40.size)
          exact wp_ret (ret_law (fn := Try.f19) s44 4 rfl rfl rfl z44)

set_option maxRecDepth 100000 in
theorem rulesRise_lifted (os : Os) (started : os.Started) (H : Type) (enc : TypeId × Value → H) :
    ReturnsInHanded {} Try.checked os 19 .any (Rows.rulesRiseSpec.pre6 enc Try.prog Try.f19 Rows.rulesRiseRow.domain false) (Rows.rulesRiseSpec.post enc Try.prog Try.f19 false true false false) := by
  refine lifted_of (C := Try.checked) laidOut own started (by kernel_rfl) Try.func19 rfl Try.underlying4 (by kernel_rfl) rfl
    (fun ds hds => by match ds, hds with | [_, _], _ => rfl)
    (ChangeSpec.witness6 (enc := enc) (C := Try.checked) false ⟨#[], #[.agg #[.int .i64 0, .slice none 0 0, .int .i64 0, .slice none 0 0, .int .i64 0, .slice none 0 0, .int .i64 0, .slice none 0 0], .agg #[.int .i64 0, .slice none 0 0, .int .i64 0, .slice none 0 0]], []⟩ 8 (by kernel_rfl) (by kernel_rfl) (by kernel_rfl) (by kernel_rfl)) ?_
  intro w base args ds ps hval0 hA0 hlt
  have hval : ∀ (j : Nat) t v, Try.f19.params[j]? = some t → args[j]? = some v → Value.okWide Try.prog w .any base t v := hval0
  have hA : DataW.TrodAll enc Try.prog w 0 (fun _ => true) true Try.f19.params.toList args.toList ds ps := hA0
  rw [Try.params19] at hA hval
  obtain ⟨v0, vs0, d0, ds0, p0, q0, hargs, rfl, rfl, h0, r0⟩ := trodAll_cons hA
  obtain ⟨v1, vs1, d1, ds1, p1, q1, rfl, rfl, rfl, h1, r1⟩ := trodAll_cons r0
  obtain ⟨rfl, rfl, rfl⟩ := trodAll_nil r1
  obtain rfl : args = #[v0, v1] := by cases args; simp_all
  obtain ⟨x0, o0, s0⟩ := open_st Try.underlying74 rfl opens_seeds4 (hval 0 74 v0 rfl rfl) h0 (fun x hx => hlt x (List.mem_append_left _ hx))
  obtain ⟨x1, o1, s1⟩ := open_st Try.underlying80 rfl opens_seeds2 (hval 1 80 v1 rfl rfl) h1 (fun x hx => hlt x (List.mem_append_right _ (List.mem_append_left _ hx)))
  exact (by obtain ⟨a, b, c, d, rfl, fa, fb, fc, fd⟩ := arr4 s0; obtain ⟨p, q, rfl, fp, fq⟩ := arr2 s1; exact rulesRise_walk w v0 v1 a b c d p q s0 s1 fa fc fp)

set_option maxRecDepth 100000 in
theorem rulesRise_facts : joinedFacts Try.pinned.checked.prog 19 Try.f19 Rows.rulesRiseSpec Rows.rulesRiseRow = true := by
  show joinedFacts Try.prog 19 Try.f19 Rows.rulesRiseSpec Rows.rulesRiseRow = true
  unfold joinedFacts
  rw [mayEnter_ok, liftsFinal_ok, make_ok]
  kernel_rfl
theorem rulesRise_holds : Rows.RulesRiseSaid :=
  OpenClaim.holds_of_wide 19 Try.f19 rfl rfl rfl rfl rfl rfl rfl ⟨rfl, rfl, rfl, rfl, rfl⟩ rfl rfl rfl rfl rfl (by kernel_rfl) Try.func19 rulesRise_facts
    (of_decide_eq_true (by kernel_rfl)) (by unfold Func.isWrapper; rw [if_neg (of_decide_eq_false (by kernel_rfl))]; exact ⟨rfl, rfl⟩)
    (fun os started H enc _ => rulesRise_lifted os started H enc)
#print axioms rulesRise_holds

end Go.Proofs.Ytihddficgpjgpaa.X
