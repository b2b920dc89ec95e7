/- MapsRuns: step by step maps are added and taken away, and pages found, as the document has it; they stay in order, none over another. -/
import Derived.Test.YtbeeiecbbmiojaaYruns
import Derived.Test.YtbeeiecbbmiojaaYord4
import Derived.Test.YtbeeiecbbmiojaaHead
namespace Go.Proofs.Ytbeeiecbbmiojaa.Y
open Go.RowKit Go.ChangeShapes Go.WideShapes Go.ChangeAt

/-- What is known at a round's beginning. -/
abbrev RunE (l : List M) (q : Int) (i : Nat) (G W : List M) (v : Value) : Env := [(32, true, .int .i64 (i : Int)), (30, true, .one (Lay.sl mapL) l), (31, true, .int .i64 (l.length : Int)), (0, true, .one (Lay.sl mapL) l), (1, true, .int .i64 q), (4, true, .bool false), (5, true, .one (Lay.sl mapL) G), (6, true, .both (.val v) (.one (Lay.sl mapL) W))]
def RunI (w0 : World) (B : Nat) (l : List M) (q : Int) (i : Nat) (a : Act) (w : World) : Prop :=
  ∃ v G W, Twin G W ∧ Grows mapL mapE B 69 noF w v W ∧ StE False 182 (RunE l q i G W v) (And2 noF (Sl v (W.length * 5))) a w ∧ Below w0.heap.size w0 w
abbrev LeftE (l : List M) (q : Int) (i0 : Nat) (G' W : List M) (n : Int) (i : Nat) (v : Value) : Env := [(71, true, .int .i64 (i : Int)), (69, true, .one (Lay.sl mapL) W), (70, true, .int .i64 (W.length : Int)), (12, true, .both (.val v) (.one (Lay.sl mapL) (awayL (W.take i) n))), (9, true, .int .i64 n), (32, true, .int .i64 (i0 : Int)), (30, true, .one (Lay.sl mapL) l), (31, true, .int .i64 (l.length : Int)), (0, true, .one (Lay.sl mapL) l), (1, true, .int .i64 q), (4, true, .bool false), (5, true, .one (Lay.sl mapL) G')]
def LeftI (w0 : World) (B : Nat) (l : List M) (q : Int) (i0 : Nat) (G' W : List M) (n : Int) (i : Nat) (a : Act) (w : World) : Prop :=
  ∃ v, Grows mapL mapE B 69 noF w v (awayL (W.take i) n) ∧ StE False 182 (LeftE l q i0 G' W n i v) (And2 noF (Sl v ((awayL (W.take i) n).length * 5))) a w ∧ Below w0.heap.size w0 w
theorem slack_nil {n : Nat} (k : Cell) (h : And2 noF (Sl (.slice none 0 0) n) k) : noF k := by
  rcases h with h | ⟨h, _⟩
  · exact h
  · cases h
theorem slack_nil2 {F : Cell → Prop} {n : Nat} (k : Cell) (h : And2 noF (Sl (.slice none 0 0) n) k) : F k := (slack_nil k h).elim
theorem idx_of {W : List M} {k : Int} {t : Nat} {x : M} (e : k = (t : Int)) (h : W[t]? = some x) : 0 ≤ k ∧ W[k.toNat]? = some x := by
  subst e
  exact ⟨by omega, by simpa using h⟩
theorem take_at {W : List M} {i : Nat} {y : M} (h : W[i]? = some y) : W.take (i + 1) = W.take i ++ [y] := by
  obtain ⟨hi, rfl⟩ := List.getElem?_eq_some_iff.1 h
  rw [List.take_succ_eq_append_getElem hi]
theorem away_more {W : List M} {i : Nat} {y : M} {n : Int} (h : W[i]? = some y) (hy : (y.pa != n) = true) : awayL (W.take (i + 1)) n = awayL (W.take i) n ++ [y] := by
  rw [take_at h]
  unfold awayL
  rw [List.filter_append, List.filter_cons, if_pos hy]; rfl
theorem away_less {W : List M} {i : Nat} {y : M} {n : Int} (h : W[i]? = some y) (hy : (y.pa != n) = false) : awayL (W.take (i + 1)) n = awayL (W.take i) n := by
  rw [take_at h]
  unfold awayL
  rw [List.filter_append, List.filter_cons, if_neg (by rw [hy]; simp)]; simp
theorem away_len (W : List M) (i : Nat) (n : Int) : (awayL (W.take i) n).length ≤ W.length := Nat.le_trans (List.length_filter_le _ _) (by rw [List.length_take]; omega)
def badI (W : List M) (m : M) (i : Nat) : Bool := !fitsB m || (W.take i).any fun x => overB x m
theorem bad_0 (W : List M) (m : M) : (!fitsB m) = badI W m 0 := by simp [badI]
theorem bad_step {W : List M} {m y : M} {i : Nat} (h : W[i]? = some y) : (badI W m i || overB y m) = badI W m (i + 1) := by
  unfold badI
  rw [take_at h, List.any_append, Bool.or_assoc]
  simp
theorem bad_end (W : List M) (m : M) : badI W m W.length = badW W m := by unfold badI badW; rw [List.take_length]
theorem err_1 {W : List M} {m : M} (h : badW W m = true) : (1 : Int) = errW W m := by unfold errW; rw [if_pos h]
theorem err_7 {W : List M} {m : M} (h : badW W m = false) (h2 : ((W.length : Int) == 16) = true) : (7 : Int) = errW W m := by
  unfold errW; rw [if_neg (by rw [h]; simp), if_pos (by simpa using h2)]
theorem err_0 {W : List M} {m : M} (h : badW W m = false) (h2 : ((W.length : Int) == 16) = false) : (0 : Int) = errW W m := by
  unfold errW; rw [if_neg (by rw [h]; simp), if_neg (by simpa using h2)]
theorem add_quiet {G W : List M} {m : M} (h : errW W m ≠ 0 → (addM G m).1 = []) : ((errW W m != errW W m) || ((errW W m != 0) && decide ((0 : Int) < ((addM G m).1.length : Int)))) = false := by
  rw [Bool.or_eq_false_iff, Bool.and_eq_false_iff]
  refine ⟨by simp, ?_⟩
  by_cases e : errW W m = 0
  · left; simp [e]
  · right; rw [h e]; rfl
theorem twin_quiet {G W : List M} (h : Twin G W) : (((G.length : Int) != (W.length : Int)) || !rightB G) = false := by
  rw [h.right.1, h.right.2]
  simp
theorem twin_len {G W : List M} (h : Twin G W) : G.length ≤ 16 := by rw [h.right.2]; exact h.len
theorem miss_step {W : List M} {q : Int} {i : Nat} {y : M} (hx : ∀ j, j < i → inM q (W.getD j noM) = false) (he : W[i]? = some y) (h : inM q y = false) (j : Nat) (hj : j < i + 1) : inM q (W.getD j noM) = false := by
  rcases Nat.lt_or_ge j i with h1 | h1
  · exact hx j h1
  · obtain rfl : j = i := by omega
    rw [getD_at he]; exact h
theorem find_yes {G W : List M} {q : Int} {i : Nat} {y : M} (h : Twin G W) (he : W[i]? = some y) (hq : inM q y = true) : ((findR G q).2 && decide ((findR G q).1 = y)) = true := by
  rw [h.hit (List.mem_of_getElem? he) hq]; simp
theorem find_no {G W : List M} {q : Int} (h : Twin G W) (hx : ∀ j, j < W.length → inM q (W.getD j noM) = false) : ((!(findR G q).2) && decide ((findR G q).1 = noM)) = true := by
  rw [h.miss fun m hm => ?_]
  · simp
  · obtain ⟨j, hj, rfl⟩ := List.getElem_of_mem hm
    have := hx j hj
    rwa [show W.getD j noM = W[j] by simp [List.getD_eq_getElem?_getD, hj]] at this
theorem some_left {W : List M} {b : Bool} (h : (b && decide ((0 : Int) < (W.length : Int))) = true) : 0 < W.length := by
  rw [Bool.and_eq_true, decide_eq_true_eq] at h
  omega
set_option maxRecDepth 100000 in
theorem mapsRuns_walk (w : World) (v0 v1 : Value) (l : List M) (q : Int) (h0 : (.one (Lay.sl mapL) l : Sym).on w noF v0) (h1 : (.int .i64 q : Sym).on w noF v1) : Calls Try.prog 7 #[v0, v1] w fun e w' => e = .returned (.bool true) ∧ Below w.heap.size w w' := by
  obtain ⟨i0, hi0, hz0, hz1, hz2⟩ := info_parts Try.info69
  obtain ⟨B, hB⟩ : ∃ B, B = w.heap.size := ⟨_, rfl⟩
  go_enter Try.func7, Try.ntmps7
  refine wp_seq ?_
  refine flowC mixed (st0 (U := False) (N := 182) (e := [(0, true, .one (Lay.sl mapL) l), (1, true, .int .i64 q)]) (F := noF) rfl rfl (fok_none False w) ⟨⟨rfl, h0⟩, ⟨⟨rfl, h1⟩, True.intro⟩⟩) (by kernel_rfl) (by kernel_rfl) (cc rfl (p_assign g0 (oc _)) cn) fun a1 w1 b1 s1 => ?_
  have z1 := b1
  refine wp_seq ?_
  refine wp_seq ?_
  refine flowC mixed (s1.keep (sc 0 rfl (sc 1 rfl (sc 4 rfl sn)))) (by kernel_rfl) (by kernel_rfl) (cc rfl (p_call 20 g0 ox0 (fun _ _ => by kernel_rfl) f20)
      (cc rfl (p_not g0 (od rfl id)) cn)) fun a2 w2 b2 s2 => ?_
  have z2 := z1.trans (b2.mono z1.size)
  refine s2.cond 26 rfl (fun h => absurd h (by decide)) fun _ => ?_
  refine wp_skip ?_
  refine wp_seq ?_
  refine wp_seq ?_
  refine flowC mixed (s2.keep (sc 0 rfl (sc 1 rfl (sc 4 rfl sn)))) (by kernel_rfl) (by kernel_rfl) (cc rfl (p_move g0 (od rfl id))
      (cc rfl (p_len ln_41 g0 (od rfl id))
      (cc rfl (p_bin g0 (od rfl id) (oc _) b_gtr_3) cn))) fun a3 w3 b3 s3 => ?_
  have z3 := z2.trans (b3.mono z2.size)
  refine s3.cond 29 rfl (fun h29 => ?_) (fun h29 => ?_)
  · -- true
    refine wp_seq ?_
    refine flowT (s3.keep (sc 0 rfl (sc 1 rfl (sc 4 rfl sn)))) (by kernel_rfl) (cc rfl (p_assign g0 (oc _)) cn) fun a4 w4 b4 s4 => ?_
    have z4 := z3.trans (b4.mono z3.size)
    exact wp_ret (ret_law (fn := Try.f7) s4 4 rfl rfl rfl z4)
  · -- false
    have hl : l.length ≤ 60 := by have := of_decide_eq_false h29; omega
    refine wp_skip ?_
    refine wp_seq ?_
    refine flowC mixed (s3.keep (sc 0 rfl (sc 1 rfl (sc 4 rfl sn)))) (by kernel_rfl) (by kernel_rfl) (cc rfl (p_assign g0 (oc _))
        (cc rfl (p_assign g0 (oc _)) cn)) fun a5 w5 b5 s5 => ?_
    have z5 := z3.trans (b5.mono z3.size)
    refine wp_seq ?_
    refine wp_seq ?_
    refine flowC mixed (s5.keep (sc 0 rfl (sc 1 rfl (sc 4 rfl (sc 5 rfl (sc 6 rfl sn)))))) (by kernel_rfl) (by kernel_rfl) (cc rfl (p_move g0 (od rfl id))
        (cc rfl (p_len ln_41 g0 (od rfl id))
        (cc rfl (p_move g0 (oc _)) cn))) fun a6 w6 b6 s6 => ?_
    have z6 := z5.trans (b6.mono z5.size)
    refine wp_block ?_
    have s6 := s6.less (F' := And2 noF (Sl (.slice none 0 0) (([] : List M).length * 5))) slack_nil
    have s6 := s6.more 5 (y := .one (Lay.sl mapL) ([] : List M)) (nil_one (s6.get 5 rfl))
    have s6 := s6.more 6 (y := .both (.val (.slice none 0 0)) (.one (Lay.sl mapL) ([] : List M))) ⟨s6.get 6 rfl, nil_one (s6.get 6 rfl)⟩
    refine wp_count l.length 32 (RunI w B l q) (fun i a w ⟨_, _, _, _, _, hs, _⟩ => hs.get 32 rfl) ⟨_, [], [], Twin.nil, Grows.nil, s6.to _ ⟨rfl, rfl, rfl, rfl, rfl, rfl, rfl, rfl, True.intro⟩, z6⟩ fun i a7 w7 hi7 hI => ?_
    obtain ⟨v, G, W, tw, gr, s7, z7⟩ := hI
    have hW := tw.len
    have hG := twin_len tw
    refine wp_seq ?_
    refine flowC mixed (s7.keep (sc 0 rfl (sc 1 rfl (sc 4 rfl (sc 5 rfl (sc 6 rfl (sc 30 rfl (sc 31 rfl (sc 32 rfl sn))))))))) (by kernel_rfl) (by kernel_rfl) (cc rfl (p_bin g0 (od rfl id) (od rfl id) b_lss_3) cn) fun a8 w8 b8 s8 => ?_
    have z8 := z7.trans (b8.mono z7.size)
    have gr := gr.below b8
    refine wp_seq ?_
    refine s8.cond 33 rfl (fun h => ?_) (fun h => ?_)
    · -- true
      have hlt : i < l.length := by simpa using h
      obtain ⟨m, em⟩ : ∃ x, l[i]? = some x := ⟨_, List.getElem?_eq_getElem hlt⟩
      refine wp_skip ?_
      refine wp_seq ?_
      refine wp_block ?_
      refine wp_seq ?_
      refine flowQ 5 mixed (s8.keep (sc 0 rfl (sc 1 rfl (sc 4 rfl (sc 5 rfl (sc 6 rfl (sc 30 rfl (sc 31 rfl (sc 32 rfl (sc 33 rfl sn)))))))))) (by kernel_rfl) (by kernel_rfl) (cc rfl (p_move g0 (od rfl id))
          (cc rfl (p_index ix_41 em g0 (od rfl id) (od rfl id))
          (cc rfl (p_load Try.underlying69 rfl sz_69 g0 (od rfl id))
          (ca rfl (m_alloc al_69 (fun h => h.elim))
          (cc rfl (p_assign g0 (od rfl id)) cn))))) (by kernel_rfl) (ss rfl rfl rfl rfl puts_st sz_69 rfl rfl ss0) fun a9 w9 b9 s9 => ?_
      have z9 := z8.trans (b9.mono z8.size)
      have gr := gr.below b9
      refine wp_seq ?_
      refine wp_seq ?_
      refine flowC mixed (s9.keep (sc 0 rfl (sc 1 rfl (sc 4 rfl (sc 5 rfl (sc 6 rfl (sc 7 rfl (sc 8 rfl (sc 30 rfl (sc 31 rfl (sc 32 rfl (sc 33 rfl (sc 34 rfl (sc 35 rfl (sc 36 rfl sn))))))))))))))) (by kernel_rfl) (by kernel_rfl) (cc rfl (p_move g0 (od rfl id))
          (cc rfl (p_bin g0 (od rfl id) (oc _) (b_rem_3 (by decide)))
          (cc rfl (p_bin g0 (od rfl id) (oc _) b_eql_3)
          (cc rfl (p_move g0 (od rfl id))
          (cc rfl (p_move (g1 rfl rfl) (od2 rfl (fun _ => rfl)))
          (cc rfl (p_len ln_41 (g1 rfl rfl) (od rfl id))
          (cc rfl (p_bin (g1 rfl rfl) (od rfl id) (oc _) b_gtr_3)
          (cc rfl (p_and g0 (od rfl id) (od rfl id)) cn)))))))) fun a10 w10 b10 s10 => ?_
      have z10 := z9.trans (b10.mono z9.size)
      have gr := gr.below b10
      refine s10.cond 44 rfl (fun h44 => ?_) (fun h44 => ?_)
      · -- true
        obtain ⟨t, ht, et⟩ := turn_is m.pa (some_left h44) tw.len
        obtain ⟨x, ex⟩ : ∃ x, W[t]? = some x := ⟨_, List.getElem?_eq_getElem ht⟩
        have hx := List.mem_of_getElem? ex
        obtain ⟨er, tw2⟩ := tw.rem hx
        have hW0 := some_left h44
        refine wp_seq ?_
        refine flowC mixed (s10.keep (sc 0 rfl (sc 1 rfl (sc 4 rfl (sc 5 rfl (sc 6 rfl (sc 7 rfl (sc 8 rfl (sc 30 rfl (sc 31 rfl (sc 32 rfl (sc 33 rfl (sc 34 rfl (sc 35 rfl (sc 36 rfl (sc 37 rfl (sc 38 rfl (sc 39 rfl (sc 40 rfl (sc 41 rfl (sc 42 rfl (sc 43 rfl (sc 44 rfl sn))))))))))))))))))))))) (by kernel_rfl) (by kernel_rfl) (cc rfl (p_move g0 (od2 rfl id))
            (cc rfl (p_fieldAddr pt69_0 fa_69_0 g0 (od rfl id))
            (cc rfl (p_loadI ld_3 g0 (od rfl id))
            (cc rfl (p_move g0 (od2 rfl id))
            (cc rfl (p_len ln_41 g0 (od rfl id))
            (cc rfl (p_bin g0 (od rfl id) (od rfl id) (b_rem_3 (by omega)))
            (cc rfl (p_move g0 (od2 rfl id))
            (cc rfl (p_len ln_41 g0 (od rfl id))
            (cc rfl (p_bin g0 (od rfl id) (od rfl id) b_add_3)
            (cc rfl (p_move g0 (od2 rfl id))
            (cc rfl (p_len ln_41 g0 (od rfl id))
            (cc rfl (p_bin g0 (od rfl id) (od rfl id) (b_rem_3 (by omega)))
            (cc rfl (p_indexI (z := x) ix_41 (fun _ => idx_of et ex) g0 (od rfl id) (od rfl id))
            (cc rfl (p_fieldAddr pt69_0 fa_69_0 g0 (od rfl id))
            (cc rfl (p_loadI ld_3 g0 (od rfl id))
            (cc rfl (p_assign g0 (od rfl id)) cn)))))))))))))))) fun a11 w11 b11 s11 => ?_
        have z11 := z10.trans (b11.mono z10.size)
        have gr := gr.below b11
        refine wp_seq ?_
        refine flowC mixed (s11.keep (sc 0 rfl (sc 1 rfl (sc 4 rfl (sc 5 rfl (sc 6 rfl (sc 7 rfl (sc 8 rfl (sc 9 rfl (sc 30 rfl (sc 31 rfl (sc 32 rfl (sc 33 rfl (sc 34 rfl (sc 35 rfl (sc 36 rfl (sc 37 rfl (sc 38 rfl (sc 39 rfl (sc 40 rfl (sc 41 rfl (sc 42 rfl (sc 43 rfl (sc 44 rfl (sc 45 rfl (sc 46 rfl (sc 47 rfl (sc 48 rfl (sc 49 rfl (sc 50 rfl (sc 51 rfl (sc 52 rfl (sc 53 rfl (sc 54 rfl (sc 55 rfl (sc 56 rfl (sc 57 rfl (sc 58 rfl (sc 59 rfl sn))))))))))))))))))))))))))))))))))))))) (by kernel_rfl) (by kernel_rfl) (cc rfl (p_move g0 (od rfl id))
            (cc rfl (p_move g0 (od rfl id))
            (cc rfl (p_call 25 g0 (ox (od rfl id) (ox (od rfl id) ox0)) (fun _ _ => by kernel_rfl) (f25 (by omega)))
            (cc rfl (p_move g0 (od rfl id))
            (cc rfl (p_ext0 g0 (od rfl id))
            (cc rfl (p_ext1 g0 (od rfl id))
            (cc rfl (p_assign g0 (od rfl id))
            (cc rfl (p_assign g0 (od rfl id)) cn)))))))) fun a12 w12 b12 s12 => ?_
        have z12 := z11.trans (b12.mono z11.size)
        have gr := gr.below b12
        have s12 := s12.more 10 (y := .one (Lay.sl mapL) (awayL G x.pa)) (by have q := s12.get 10 rfl; rw [er] at q; exact q)
        have s12 := s12.more 11 (y := .int .i64 0) (int_as (s12.get 11 rfl) (by rw [er]))
        refine wp_seq ?_
        refine wp_seq ?_
        refine flowC mixed (s12.keep (sc 0 rfl (sc 1 rfl (sc 4 rfl (sc 5 rfl (sc 6 rfl (sc 7 rfl (sc 8 rfl (sc 9 rfl (sc 10 rfl (sc 11 rfl (sc 30 rfl (sc 31 rfl (sc 32 rfl (sc 33 rfl (sc 34 rfl (sc 35 rfl (sc 36 rfl (sc 37 rfl (sc 38 rfl (sc 39 rfl (sc 40 rfl (sc 41 rfl (sc 42 rfl (sc 43 rfl (sc 44 rfl (sc 45 rfl (sc 46 rfl (sc 47 rfl (sc 48 rfl (sc 49 rfl (sc 50 rfl (sc 51 rfl (sc 52 rfl (sc 53 rfl (sc 54 rfl (sc 55 rfl (sc 56 rfl (sc 57 rfl (sc 58 rfl (sc 59 rfl (sc 60 rfl (sc 61 rfl (sc 62 rfl (sc 63 rfl (sc 64 rfl (sc 65 rfl sn))))))))))))))))))))))))))))))))))))))))))))))) (by kernel_rfl) (by kernel_rfl) (cc rfl (p_move g0 (od rfl id))
            (cc rfl (p_bin g0 (od rfl id) (oc _) b_neq_73) cn)) fun a13 w13 b13 s13 => ?_
        have z13 := z12.trans (b13.mono z12.size)
        have gr := gr.below b13
        refine s13.cond 67 rfl (fun h => absurd h (by decide)) fun _ => ?_
        refine wp_skip ?_
        refine wp_seq ?_
        refine flowT (s13.keep (sc 0 rfl (sc 1 rfl (sc 4 rfl (sc 5 rfl (sc 6 rfl (sc 7 rfl (sc 8 rfl (sc 9 rfl (sc 10 rfl (sc 11 rfl (sc 30 rfl (sc 31 rfl (sc 32 rfl (sc 33 rfl (sc 34 rfl (sc 35 rfl (sc 36 rfl (sc 37 rfl (sc 38 rfl (sc 39 rfl (sc 40 rfl (sc 41 rfl (sc 42 rfl (sc 43 rfl (sc 44 rfl (sc 45 rfl (sc 46 rfl (sc 47 rfl (sc 48 rfl (sc 49 rfl (sc 50 rfl (sc 51 rfl (sc 52 rfl (sc 53 rfl (sc 54 rfl (sc 55 rfl (sc 56 rfl (sc 57 rfl (sc 58 rfl (sc 59 rfl (sc 60 rfl (sc 61 rfl (sc 62 rfl (sc 63 rfl (sc 64 rfl (sc 65 rfl (sc 66 rfl (sc 67 rfl sn))))))))))))))))))))))))))))))))))))))))))))))))) (by kernel_rfl) (cc rfl (p_move g0 (od rfl id))
            (cc rfl (p_assign g0 (od rfl id)) cn)) fun a14 w14 b14 s14 => ?_
        have z14 := z13.trans (b14.mono z13.size)
        have gr := gr.below b14
        refine wp_seq ?_
        refine flowC mixed (s14.keep (sc 0 rfl (sc 1 rfl (sc 4 rfl (sc 5 rfl (sc 6 rfl (sc 7 rfl (sc 8 rfl (sc 9 rfl (sc 10 rfl (sc 11 rfl (sc 30 rfl (sc 31 rfl (sc 32 rfl (sc 33 rfl (sc 34 rfl (sc 35 rfl (sc 36 rfl (sc 37 rfl (sc 38 rfl (sc 39 rfl (sc 40 rfl (sc 41 rfl (sc 42 rfl (sc 43 rfl (sc 44 rfl (sc 45 rfl (sc 46 rfl (sc 47 rfl (sc 48 rfl (sc 49 rfl (sc 50 rfl (sc 51 rfl (sc 52 rfl (sc 53 rfl (sc 54 rfl (sc 55 rfl (sc 56 rfl (sc 57 rfl (sc 58 rfl (sc 59 rfl (sc 60 rfl (sc 61 rfl (sc 62 rfl (sc 63 rfl (sc 64 rfl (sc 65 rfl (sc 66 rfl (sc 67 rfl (sc 68 rfl sn)))))))))))))))))))))))))))))))))))))))))))))))))) (by kernel_rfl) (by kernel_rfl) (cc rfl (p_assign g0 (oc _)) cn) fun a15 w15 b15 s15 => ?_
        have z15 := z14.trans (b15.mono z14.size)
        have gr := gr.below b15
        refine wp_seq ?_
        refine wp_seq ?_
        refine flowC mixed (s15.keep (sc 0 rfl (sc 1 rfl (sc 4 rfl (sc 5 rfl (sc 6 rfl (sc 7 rfl (sc 8 rfl (sc 9 rfl (sc 10 rfl (sc 11 rfl (sc 12 rfl (sc 30 rfl (sc 31 rfl (sc 32 rfl (sc 33 rfl (sc 34 rfl (sc 35 rfl (sc 36 rfl (sc 37 rfl (sc 38 rfl (sc 39 rfl (sc 40 rfl (sc 41 rfl (sc 42 rfl (sc 43 rfl (sc 44 rfl (sc 45 rfl (sc 46 rfl (sc 47 rfl (sc 48 rfl (sc 49 rfl (sc 50 rfl (sc 51 rfl (sc 52 rfl (sc 53 rfl (sc 54 rfl (sc 55 rfl (sc 56 rfl (sc 57 rfl (sc 58 rfl (sc 59 rfl (sc 60 rfl (sc 61 rfl (sc 62 rfl (sc 63 rfl (sc 64 rfl (sc 65 rfl (sc 66 rfl (sc 67 rfl (sc 68 rfl sn))))))))))))))))))))))))))))))))))))))))))))))))))) (by kernel_rfl) (by kernel_rfl) (cc rfl (p_move g0 (od2 rfl id))
            (cc rfl (p_len ln_41 g0 (od rfl id))
            (cc rfl (p_move g0 (oc _)) cn))) fun a16 w16 b16 s16 => ?_
        have z16 := z15.trans (b16.mono z15.size)
        have gr := gr.below b16
        refine wp_block ?_
        have s16 := s16.less (F' := And2 noF (Sl (.slice none 0 0) ((awayL (W.take 0) x.pa).length * 5))) slack_nil2
        have s16 := s16.more 12 (y := .both (.val (.slice none 0 0)) (.one (Lay.sl mapL) (awayL (W.take 0) x.pa))) ⟨s16.get 12 rfl, nil_one (s16.get 12 rfl)⟩
        refine wp_count W.length 71 (LeftI w B l q i (awayL G x.pa) W x.pa) (fun _ _ _ ⟨_, _, hs, _⟩ => hs.get 71 rfl) ⟨_, Grows.nil, s16.to _ ⟨rfl, rfl, rfl, rfl, rfl, rfl, rfl, rfl, rfl, rfl, rfl, rfl, True.intro⟩, z16⟩ fun i2 a17 w17 hi17 hI => ?_
        obtain ⟨vl, gl, s17, z17⟩ := hI
        have hal := away_len W i2 x.pa
        refine wp_seq ?_
        refine flowC mixed (s17.keep (sc 0 rfl (sc 1 rfl (sc 4 rfl (sc 5 rfl (sc 9 rfl (sc 12 rfl (sc 30 rfl (sc 31 rfl (sc 32 rfl (sc 69 rfl (sc 70 rfl (sc 71 rfl sn))))))))))))) (by kernel_rfl) (by kernel_rfl) (cc rfl (p_bin g0 (od rfl id) (od rfl id) b_lss_3) cn) fun a18 w18 b18 s18 => ?_
        have z18 := z17.trans (b18.mono z17.size)
        have gl := gl.below b18
        refine wp_seq ?_
        refine s18.cond 72 rfl (fun h => ?_) (fun h => ?_)
        · -- true
          have hlt2 : i2 < W.length := by simpa using h
          obtain ⟨y, ey⟩ : ∃ y, W[i2]? = some y := ⟨_, List.getElem?_eq_getElem hlt2⟩
          refine wp_skip ?_
          refine wp_seq ?_
          refine wp_block ?_
          refine wp_seq ?_
          refine flowQ 3 mixed (s18.keep (sc 0 rfl (sc 1 rfl (sc 4 rfl (sc 5 rfl (sc 9 rfl (sc 12 rfl (sc 30 rfl (sc 31 rfl (sc 32 rfl (sc 69 rfl (sc 70 rfl (sc 71 rfl (sc 72 rfl sn)))))))))))))) (by kernel_rfl) (by kernel_rfl) (cc rfl (p_index ix_41 ey g0 (od rfl id) (od rfl id))
              (cc rfl (p_load Try.underlying69 rfl sz_69 g0 (od rfl id))
              (ca rfl (m_alloc al_69 (fun h => h.elim)) cn))) (by kernel_rfl) (ss rfl rfl rfl rfl puts_st sz_69 rfl rfl ss0) fun a19 w19 b19 s19 => ?_
          have z19 := z18.trans (b19.mono z18.size)
          have gl := gl.below b19
          refine wp_seq ?_
          refine flowC mixed (s19.keep (sc 0 rfl (sc 1 rfl (sc 4 rfl (sc 5 rfl (sc 9 rfl (sc 12 rfl (sc 14 rfl (sc 30 rfl (sc 31 rfl (sc 32 rfl (sc 69 rfl (sc 70 rfl (sc 71 rfl (sc 72 rfl (sc 73 rfl (sc 74 rfl sn))))))))))))))))) (by kernel_rfl) (by kernel_rfl) (cc rfl (p_fieldAddr pt69_0 fa_69_0 g0 (od rfl id))
              (cc rfl (p_loadI ld_3 g0 (od rfl id))
              (cc rfl (p_move g0 (od rfl id))
              (cc rfl (p_bin g0 (od rfl id) (od rfl id) b_neq_3) cn)))) fun a20 w20 b20 s20 => ?_
          have z20 := z19.trans (b20.mono z19.size)
          have gl := gl.below b20
          refine s20.cond 78 rfl (fun h78 => ?_) (fun h78 => ?_)
          · -- true
            refine wp_region_lit ?_
            refine chainK 3 (cc rfl (p_move g0 (od rfl id))
                (cc rfl (p_load Try.underlying69 rfl sz_69 g0 (od rfl id))
                (cc rfl (p_lit mapF bs_41 g0 (od rfl id)) cn))) (by kernel_rfl) (s20.keep (sc 0 rfl (sc 1 rfl (sc 4 rfl (sc 5 rfl (sc 9 rfl (sc 12 rfl (sc 14 rfl (sc 30 rfl (sc 31 rfl (sc 32 rfl (sc 69 rfl (sc 70 rfl (sc 71 rfl (sc 72 rfl (sc 73 rfl (sc 74 rfl (sc 75 rfl (sc 76 rfl (sc 77 rfl (sc 78 rfl sn))))))))))))))))))))) fun a21 w21 b21 s21 => ?_
            have z21 := z20.trans (b21.mono z20.size)
            have gl := gl.below b21
            show wpList _ _ _ (_ :: _) _ _
            refine grow_step (l2 := [y]) mapF 79 81 id s21 gl rfl rfl (by decide) rfl Try.underlying41 hi0 hz0 hz1 hz2 rfl (by decide) rfl rfl rfl (by rw [hB]; exact z21.size) (by unfold maxLen; omega) (by omega) fun vl22 w22 gr22 g22 y22 s22 => ?_
            have z22 := z21.grown g22 z21.size fun k e => by rw [← hB]; exact own_base gl.own e
            refine chainT (t := []) (cc rfl (p_assign g0 (od rfl id)) cn) (by kernel_rfl) s22 fun a23 w23 b23 s23 => wpList_done ?_
            have z23 := z22.trans (b23.mono z22.size)
            have gr22 := gr22.below b23
            have ea := away_more ey h78
            rw [← ea] at gr22 s23
            refine flowT (s23.keep (sc 0 rfl (sc 1 rfl (sc 4 rfl (sc 5 rfl (sc 9 rfl (sc 12 rfl (sc 14 rfl (sc 30 rfl (sc 31 rfl (sc 32 rfl (sc 69 rfl (sc 70 rfl (sc 71 rfl (sc 72 rfl (sc 73 rfl (sc 74 rfl (sc 75 rfl (sc 76 rfl (sc 77 rfl (sc 78 rfl (sc 79 rfl (sc 80 rfl (sc 81 rfl (sc 82 rfl sn))))))))))))))))))))))))) (by kernel_rfl) (cc rfl (p_bin g0 (od rfl id) (oc _) (inc_3 (by omega)))
                (cc rfl (p_move g0 (od rfl id)) cn)) fun a24 w24 b24 s24 => ?_
            have z24 := z23.trans (b24.mono z23.size)
            have gr22 := gr22.below b24
            exact ⟨hlt2, vl22, gr22, s24.to _ ⟨rfl, rfl, rfl, rfl, rfl, rfl, rfl, rfl, rfl, rfl, rfl, rfl, True.intro⟩, z24⟩
          · -- false
            have ea := away_less ey h78
            rw [← ea] at gl s20
            refine wp_skip ?_
            refine flowT (s20.keep (sc 0 rfl (sc 1 rfl (sc 4 rfl (sc 5 rfl (sc 9 rfl (sc 12 rfl (sc 14 rfl (sc 30 rfl (sc 31 rfl (sc 32 rfl (sc 69 rfl (sc 70 rfl (sc 71 rfl (sc 72 rfl (sc 73 rfl (sc 74 rfl (sc 75 rfl (sc 76 rfl (sc 77 rfl (sc 78 rfl sn))))))))))))))))))))) (by kernel_rfl) (cc rfl (p_bin g0 (od rfl id) (oc _) (inc_3 (by omega)))
                (cc rfl (p_move g0 (od rfl id)) cn)) fun a25 w25 b25 s25 => ?_
            have z25 := z20.trans (b25.mono z20.size)
            have gl := gl.below b25
            exact ⟨hlt2, vl, gl, s25.to _ ⟨rfl, rfl, rfl, rfl, rfl, rfl, rfl, rfl, rfl, rfl, rfl, rfl, True.intro⟩, z25⟩
        · -- false
          obtain rfl : i2 = W.length := by have := of_decide_eq_false h; (try dsimp only at this); omega
          have et2 : W.take W.length = W := List.take_length
          rw [et2] at gl s18
          refine wp_exit ?_
          refine wp_seq ?_
          refine flowC mixed (s18.keep (sc 0 rfl (sc 1 rfl (sc 4 rfl (sc 5 rfl (sc 9 rfl (sc 12 rfl (sc 30 rfl (sc 31 rfl (sc 32 rfl (sc 69 rfl (sc 70 rfl (sc 71 rfl (sc 72 rfl sn)))))))))))))) (by kernel_rfl) (by kernel_rfl) (cc rfl (p_move g0 (od rfl id))
              (cc rfl (p_assign g0 (od rfl id)) cn)) fun a26 w26 b26 s26 => ?_
          have z26 := z18.trans (b26.mono z18.size)
          have gl := gl.below b26
          refine wp_exit ?_
          refine flowT (s26.keep (sc 0 rfl (sc 1 rfl (sc 4 rfl (sc 5 rfl (sc 6 rfl (sc 9 rfl (sc 12 rfl (sc 30 rfl (sc 31 rfl (sc 32 rfl (sc 69 rfl (sc 70 rfl (sc 71 rfl (sc 72 rfl (sc 84 rfl sn)))))))))))))))) (by kernel_rfl) (cc rfl (p_bin g0 (od rfl id) (oc _) (inc_3 (by omega)))
              (cc rfl (p_move g0 (od rfl id)) cn)) fun a27 w27 b27 s27 => ?_
          have z27 := z26.trans (b27.mono z26.size)
          have gl := gl.below b27
          exact ⟨hlt, vl, (awayL G x.pa), (awayL W x.pa), tw2, gl, s27.to _ ⟨rfl, rfl, rfl, rfl, rfl, rfl, rfl, rfl, True.intro⟩, z27⟩
      · -- false
        refine wp_skip ?_
        refine wp_seq ?_
        refine flowC mixed (s10.keep (sc 0 rfl (sc 1 rfl (sc 4 rfl (sc 5 rfl (sc 6 rfl (sc 7 rfl (sc 8 rfl (sc 30 rfl (sc 31 rfl (sc 32 rfl (sc 33 rfl (sc 34 rfl (sc 35 rfl (sc 36 rfl (sc 37 rfl (sc 38 rfl (sc 39 rfl (sc 40 rfl (sc 41 rfl (sc 42 rfl (sc 43 rfl (sc 44 rfl sn))))))))))))))))))))))) (by kernel_rfl) (by kernel_rfl) (cc rfl (p_load Try.underlying69 rfl sz_69 g0 (od rfl id))
            (cc rfl (p_call 21 g0 (ox (od rfl id) ox0) (fun _ _ => by kernel_rfl) f21)
            (cc rfl (p_not g0 (od rfl id))
            (cc rfl (p_assign g0 (od rfl id)) cn)))) fun a28 w28 b28 s28 => ?_
        have z28 := z10.trans (b28.mono z10.size)
        have gr := gr.below b28
        have s28 := s28.more 15 (y := .bool (badI W m 0)) (bool_as (s28.get 15 rfl) (bad_0 W m))
        refine wp_seq ?_
        refine wp_seq ?_
        refine flowC mixed (s28.keep (sc 0 rfl (sc 1 rfl (sc 4 rfl (sc 5 rfl (sc 6 rfl (sc 7 rfl (sc 8 rfl (sc 15 rfl (sc 30 rfl (sc 31 rfl (sc 32 rfl (sc 33 rfl (sc 34 rfl (sc 35 rfl (sc 36 rfl (sc 37 rfl (sc 38 rfl (sc 39 rfl (sc 40 rfl (sc 41 rfl (sc 42 rfl (sc 43 rfl (sc 44 rfl (sc 85 rfl (sc 86 rfl (sc 87 rfl sn))))))))))))))))))))))))))) (by kernel_rfl) (by kernel_rfl) (cc rfl (p_move g0 (od2 rfl id))
            (cc rfl (p_len ln_41 g0 (od rfl id))
            (cc rfl (p_move g0 (oc _)) cn))) fun a29 w29 b29 s29 => ?_
        have z29 := z28.trans (b29.mono z28.size)
        have gr := gr.below b29
        refine wp_block ?_
        have gi := hlt
        refine wp_range W.length 90 (fun i => [(15, true, .bool (badI W m i))]) (fun i w => Grows mapL mapE B 69 noF w v W) (s29.keep (sc 90 rfl (sc 15 rfl (sc 0 rfl (sc 1 rfl (sc 4 rfl (sc 5 rfl (sc 6 rfl (sc 7 rfl (sc 8 rfl (sc 30 rfl (sc 31 rfl (sc 32 rfl (sc 33 rfl (sc 34 rfl (sc 35 rfl (sc 36 rfl (sc 37 rfl (sc 38 rfl (sc 39 rfl (sc 40 rfl (sc 41 rfl (sc 42 rfl (sc 43 rfl (sc 44 rfl (sc 85 rfl (sc 86 rfl (sc 87 rfl (sc 88 rfl (sc 89 rfl sn)))))))))))))))))))))))))))))) z29 (gr) fun i a30 w30 hi1 s30 z30 x30 => ?_
        have gr := x30
        refine wp_seq ?_
        refine flowC mixed (s30.keep (sc 0 rfl (sc 1 rfl (sc 4 rfl (sc 5 rfl (sc 6 rfl (sc 7 rfl (sc 8 rfl (sc 15 rfl (sc 30 rfl (sc 31 rfl (sc 32 rfl (sc 33 rfl (sc 34 rfl (sc 35 rfl (sc 36 rfl (sc 37 rfl (sc 38 rfl (sc 39 rfl (sc 40 rfl (sc 41 rfl (sc 42 rfl (sc 43 rfl (sc 44 rfl (sc 85 rfl (sc 86 rfl (sc 87 rfl (sc 88 rfl (sc 89 rfl (sc 90 rfl sn)))))))))))))))))))))))))))))) (by kernel_rfl) (by kernel_rfl) (cc rfl (p_bin g0 (od rfl id) (od rfl id) b_lss_3) cn) fun a31 w31 b31 s31 => ?_
        have z31 := z30.trans (b31.mono z30.size)
        have gr := gr.below b31
        refine wp_seq ?_
        refine s31.cond 91 rfl (fun h => ?_) (fun h => ?_)
        · -- true
          have hlt1 : i < W.length := by simpa using h
          obtain ⟨y, ey⟩ : ∃ y, W[i]? = some y := ⟨_, List.getElem?_eq_getElem hlt1⟩
          refine wp_skip ?_
          refine wp_seq ?_
          refine wp_block ?_
          refine wp_seq ?_
          refine flowQ 3 mixed (s31.keep (sc 0 rfl (sc 1 rfl (sc 4 rfl (sc 5 rfl (sc 6 rfl (sc 7 rfl (sc 8 rfl (sc 15 rfl (sc 30 rfl (sc 31 rfl (sc 32 rfl (sc 33 rfl (sc 34 rfl (sc 35 rfl (sc 36 rfl (sc 37 rfl (sc 38 rfl (sc 39 rfl (sc 40 rfl (sc 41 rfl (sc 42 rfl (sc 43 rfl (sc 44 rfl (sc 85 rfl (sc 86 rfl (sc 87 rfl (sc 88 rfl (sc 89 rfl (sc 90 rfl (sc 91 rfl sn))))))))))))))))))))))))))))))) (by kernel_rfl) (by kernel_rfl) (cc rfl (p_index ix_41 ey g0 (od rfl id) (od rfl id))
              (cc rfl (p_load Try.underlying69 rfl sz_69 g0 (od rfl id))
              (ca rfl (m_alloc al_69 (fun h => h.elim)) cn))) (by kernel_rfl) (ss rfl rfl rfl rfl puts_st sz_69 rfl rfl ss0) fun a32 w32 b32 s32 => ?_
          have z32 := z31.trans (b32.mono z31.size)
          have gr := gr.below b32
          refine flowT (s32.keep (sc 0 rfl (sc 1 rfl (sc 4 rfl (sc 5 rfl (sc 6 rfl (sc 7 rfl (sc 8 rfl (sc 15 rfl (sc 17 rfl (sc 30 rfl (sc 31 rfl (sc 32 rfl (sc 33 rfl (sc 34 rfl (sc 35 rfl (sc 36 rfl (sc 37 rfl (sc 38 rfl (sc 39 rfl (sc 40 rfl (sc 41 rfl (sc 42 rfl (sc 43 rfl (sc 44 rfl (sc 85 rfl (sc 86 rfl (sc 87 rfl (sc 88 rfl (sc 89 rfl (sc 90 rfl (sc 91 rfl (sc 92 rfl (sc 93 rfl sn)))))))))))))))))))))))))))))))))) (by kernel_rfl) (cc rfl (p_move g0 (od rfl id))
              (cc rfl (p_move g0 (od rfl id))
              (cc rfl (p_load Try.underlying69 rfl sz_69 (g1 rfl rfl) (od rfl (fun _ => rfl)))
              (cc rfl (p_load Try.underlying69 rfl sz_69 (g1 rfl rfl) (od rfl (fun _ => rfl)))
              (cc rfl (p_call 22 (g1 rfl rfl) (ox (od rfl id) (ox (od rfl id) ox0)) (fun _ _ => by kernel_rfl) f22)
              (cc rfl (p_or g0 (od rfl id) (od rfl id))
              (cc rfl (p_assign g0 (od rfl id)) cn))))))) fun a33 w33 b33 s33 => ?_
          have z33 := z32.trans (b33.mono z32.size)
          have gr := gr.below b33
          have s33 := s33.more 15 (y := .bool (badI W m (i + 1))) (bool_as (s33.get 15 rfl) (bad_step ey))
          refine flowT (s33.keep (sc 0 rfl (sc 1 rfl (sc 4 rfl (sc 5 rfl (sc 6 rfl (sc 7 rfl (sc 8 rfl (sc 15 rfl (sc 17 rfl (sc 30 rfl (sc 31 rfl (sc 32 rfl (sc 33 rfl (sc 34 rfl (sc 35 rfl (sc 36 rfl (sc 37 rfl (sc 38 rfl (sc 39 rfl (sc 40 rfl (sc 41 rfl (sc 42 rfl (sc 43 rfl (sc 44 rfl (sc 85 rfl (sc 86 rfl (sc 87 rfl (sc 88 rfl (sc 89 rfl (sc 90 rfl (sc 91 rfl (sc 92 rfl (sc 93 rfl (sc 94 rfl (sc 95 rfl (sc 96 rfl (sc 97 rfl (sc 98 rfl (sc 99 rfl sn)))))))))))))))))))))))))))))))))))))))) (by kernel_rfl) (cc rfl (p_bin g0 (od rfl id) (oc _) (inc_3 (by omega)))
              (cc rfl (p_move g0 (od rfl id)) cn)) fun a34 w34 b34 s34 => ?_
          have z34 := z33.trans (b34.mono z33.size)
          have gr := gr.below b34
          exact ⟨hlt1, s34.to _ ⟨rfl, rfl, rfl, rfl, rfl, rfl, rfl, rfl, rfl, rfl, rfl, rfl, rfl, rfl, rfl, rfl, rfl, rfl, rfl, rfl, rfl, rfl, rfl, rfl, rfl, rfl, rfl, rfl, rfl, True.intro⟩, z34, gr⟩
        · -- false
          obtain rfl : i = W.length := by have := of_decide_eq_false h; (try dsimp only at this); omega
          have s31 := s31.more 15 (y := .bool (badW W m)) (bool_as (s31.get 15 rfl) (bad_end W m))
          refine wp_exit ?_
          refine wp_seq ?_
          refine flowC mixed (s31.keep (sc 0 rfl (sc 1 rfl (sc 4 rfl (sc 5 rfl (sc 6 rfl (sc 7 rfl (sc 8 rfl (sc 15 rfl (sc 30 rfl (sc 31 rfl (sc 32 rfl (sc 33 rfl (sc 34 rfl (sc 35 rfl (sc 36 rfl (sc 37 rfl (sc 38 rfl (sc 39 rfl (sc 40 rfl (sc 41 rfl (sc 42 rfl (sc 43 rfl (sc 44 rfl (sc 85 rfl (sc 86 rfl (sc 87 rfl (sc 88 rfl (sc 89 rfl (sc 90 rfl (sc 91 rfl sn))))))))))))))))))))))))))))))) (by kernel_rfl) (by kernel_rfl) (cc rfl (p_assign g0 (oc _)) cn) fun a35 w35 b35 s35 => ?_
          have z35 := z31.trans (b35.mono z31.size)
          have gr := gr.below b35
          refine wp_seq ?_
          refine wp_block ?_
          refine wp_seq ?_
          refine flowC mixed (s35.keep (sc 0 rfl (sc 1 rfl (sc 4 rfl (sc 5 rfl (sc 6 rfl (sc 7 rfl (sc 8 rfl (sc 15 rfl (sc 18 rfl (sc 30 rfl (sc 31 rfl (sc 32 rfl (sc 33 rfl (sc 34 rfl (sc 35 rfl (sc 36 rfl (sc 37 rfl (sc 38 rfl (sc 39 rfl (sc 40 rfl (sc 41 rfl (sc 42 rfl (sc 43 rfl (sc 44 rfl (sc 85 rfl (sc 86 rfl (sc 87 rfl (sc 88 rfl (sc 89 rfl (sc 90 rfl (sc 91 rfl sn)))))))))))))))))))))))))))))))) (by kernel_rfl) (by kernel_rfl) (cc rfl (p_move g0 (od rfl id))
              (cc rfl (p_assign g0 (od rfl id)) cn)) fun a36 w36 b36 s36 => ?_
          have z36 := z35.trans (b36.mono z35.size)
          have gr := gr.below b36
          refine s36.cond 101 rfl (fun h101 => ?_) (fun h101 => ?_)
          · -- true
            refine flowT (s36.keep (sc 0 rfl (sc 1 rfl (sc 4 rfl (sc 5 rfl (sc 6 rfl (sc 7 rfl (sc 8 rfl (sc 15 rfl (sc 18 rfl (sc 30 rfl (sc 31 rfl (sc 32 rfl (sc 33 rfl (sc 34 rfl (sc 35 rfl (sc 36 rfl (sc 37 rfl (sc 38 rfl (sc 39 rfl (sc 40 rfl (sc 41 rfl (sc 42 rfl (sc 43 rfl (sc 44 rfl (sc 85 rfl (sc 86 rfl (sc 87 rfl (sc 88 rfl (sc 89 rfl (sc 90 rfl (sc 91 rfl (sc 101 rfl (sc 102 rfl sn)))))))))))))))))))))))))))))))))) (by kernel_rfl) (cc rfl (p_assign g0 (oc _)) cn) fun a37 w37 b37 s37 => ?_
            have z37 := z36.trans (b37.mono z36.size)
            have gr := gr.below b37
            have s37 := s37.more 18 (y := .int .i64 (errW W m)) (int_as (s37.get 18 rfl) (err_1 h101))
            refine wp_seq ?_
            refine flowC mixed (s37.keep (sc 0 rfl (sc 1 rfl (sc 4 rfl (sc 5 rfl (sc 6 rfl (sc 7 rfl (sc 8 rfl (sc 15 rfl (sc 18 rfl (sc 30 rfl (sc 31 rfl (sc 32 rfl (sc 33 rfl (sc 34 rfl (sc 35 rfl (sc 36 rfl (sc 37 rfl (sc 38 rfl (sc 39 rfl (sc 40 rfl (sc 41 rfl (sc 42 rfl (sc 43 rfl (sc 44 rfl (sc 85 rfl (sc 86 rfl (sc 87 rfl (sc 88 rfl (sc 89 rfl (sc 90 rfl (sc 91 rfl (sc 101 rfl (sc 102 rfl sn)))))))))))))))))))))))))))))))))) (by kernel_rfl) (by kernel_rfl) (cc rfl (p_move g0 (od rfl id))
                (cc rfl (p_load Try.underlying69 rfl sz_69 g0 (od rfl id))
                (cc rfl (p_call 24 g0 (ox (od rfl id) (ox (od rfl id) ox0)) (fun _ _ => by kernel_rfl) (f24 (by omega)))
                (cc rfl (p_move g0 (od rfl id))
                (cc rfl (p_ext0 g0 (od rfl id))
                (cc rfl (p_ext1 g0 (od rfl id))
                (cc rfl (p_assign g0 (od rfl id))
                (cc rfl (p_assign g0 (od rfl id)) cn)))))))) fun a38 w38 b38 s38 => ?_
            have z38 := z37.trans (b38.mono z37.size)
            have gr := gr.below b38
            obtain ⟨ha1, ha2, ha3⟩ := tw.add m
            have s38 := s38.more 20 (y := .int .i64 (errW W m)) (int_as (s38.get 20 rfl) ha1)
            refine wp_seq ?_
            refine wp_seq ?_
            refine flowC mixed (s38.keep (sc 0 rfl (sc 1 rfl (sc 4 rfl (sc 5 rfl (sc 6 rfl (sc 7 rfl (sc 8 rfl (sc 15 rfl (sc 18 rfl (sc 19 rfl (sc 20 rfl (sc 30 rfl (sc 31 rfl (sc 32 rfl (sc 33 rfl (sc 34 rfl (sc 35 rfl (sc 36 rfl (sc 37 rfl (sc 38 rfl (sc 39 rfl (sc 40 rfl (sc 41 rfl (sc 42 rfl (sc 43 rfl (sc 44 rfl (sc 85 rfl (sc 86 rfl (sc 87 rfl (sc 88 rfl (sc 89 rfl (sc 90 rfl (sc 91 rfl (sc 101 rfl (sc 102 rfl (sc 107 rfl (sc 108 rfl (sc 109 rfl (sc 110 rfl (sc 111 rfl (sc 112 rfl sn)))))))))))))))))))))))))))))))))))))))))) (by kernel_rfl) (by kernel_rfl) (cc rfl (p_move g0 (od rfl id))
                (cc rfl (p_move g0 (od rfl id))
                (cc rfl (p_bin g0 (od rfl id) (od rfl id) b_neq_73)
                (cc rfl (p_move g0 (od rfl id))
                (cc rfl (p_move (g1 rfl rfl) (od rfl (fun _ => rfl)))
                (cc rfl (p_bin (g1 rfl rfl) (od rfl id) (oc _) b_neq_73)
                (cc rfl (p_move (g1 rfl rfl) (od rfl id))
                (cc rfl (p_move (g1 rfl rfl) (od rfl (fun _ => rfl)))
                (cc rfl (p_len ln_41 (g1 rfl rfl) (od rfl id))
                (cc rfl (p_bin (g1 rfl rfl) (od rfl id) (oc _) b_gtr_3)
                (cc rfl (p_and (g1 rfl rfl) (od rfl id) (od rfl id))
                (cc rfl (p_or g0 (od rfl id) (od rfl id)) cn)))))))))))) fun a39 w39 b39 s39 => ?_
            have z39 := z38.trans (b39.mono z38.size)
            have gr := gr.below b39
            refine s39.cond 124 rfl (fun h => absurd h (by rw [add_quiet ha2]; simp)) fun _ => ?_
            refine wp_skip ?_
            refine wp_seq ?_
            refine wp_seq ?_
            refine flowC mixed (s39.keep (sc 0 rfl (sc 1 rfl (sc 4 rfl (sc 5 rfl (sc 6 rfl (sc 7 rfl (sc 8 rfl (sc 15 rfl (sc 18 rfl (sc 19 rfl (sc 20 rfl (sc 30 rfl (sc 31 rfl (sc 32 rfl (sc 33 rfl (sc 34 rfl (sc 35 rfl (sc 36 rfl (sc 37 rfl (sc 38 rfl (sc 39 rfl (sc 40 rfl (sc 41 rfl (sc 42 rfl (sc 43 rfl (sc 44 rfl (sc 85 rfl (sc 86 rfl (sc 87 rfl (sc 88 rfl (sc 89 rfl (sc 90 rfl (sc 91 rfl (sc 101 rfl (sc 102 rfl (sc 107 rfl (sc 108 rfl (sc 109 rfl (sc 110 rfl (sc 111 rfl (sc 112 rfl (sc 113 rfl (sc 114 rfl (sc 115 rfl (sc 116 rfl (sc 117 rfl (sc 118 rfl (sc 119 rfl (sc 120 rfl (sc 121 rfl (sc 122 rfl (sc 123 rfl (sc 124 rfl sn)))))))))))))))))))))))))))))))))))))))))))))))))))))) (by kernel_rfl) (by kernel_rfl) (cc rfl (p_move g0 (od rfl id))
                (cc rfl (p_bin g0 (od rfl id) (oc _) b_eql_73) cn)) fun a40 w40 b40 s40 => ?_
            have z40 := z39.trans (b40.mono z39.size)
            have gr := gr.below b40
            refine s40.cond 126 rfl (fun h126 => ?_) (fun h126 => ?_)
            · -- true
              obtain ⟨ha4, tw3⟩ := ha3 (by simpa using h126)
              have hW3 := tw3.len
              have hG3 := twin_len tw3
              have s40 := s40.more 19 (y := .one (Lay.sl mapL) (insM G m)) (by have q := s40.get 19 rfl; rw [ha4] at q; exact q)
              refine wp_region_lit ?_
              refine chainK 4 (cc rfl (p_move g0 (od rfl id))
                  (cc rfl (p_move g0 (od rfl id))
                  (cc rfl (p_load Try.underlying69 rfl sz_69 g0 (od rfl id))
                  (cc rfl (p_lit mapF bs_41 g0 (od rfl id)) cn)))) (by kernel_rfl) (s40.keep (sc 0 rfl (sc 1 rfl (sc 4 rfl (sc 6 rfl (sc 7 rfl (sc 8 rfl (sc 15 rfl (sc 18 rfl (sc 19 rfl (sc 20 rfl (sc 30 rfl (sc 31 rfl (sc 32 rfl (sc 33 rfl (sc 34 rfl (sc 35 rfl (sc 36 rfl (sc 37 rfl (sc 38 rfl (sc 39 rfl (sc 40 rfl (sc 41 rfl (sc 42 rfl (sc 43 rfl (sc 44 rfl (sc 85 rfl (sc 86 rfl (sc 87 rfl (sc 88 rfl (sc 89 rfl (sc 90 rfl (sc 91 rfl (sc 101 rfl (sc 102 rfl (sc 107 rfl (sc 108 rfl (sc 109 rfl (sc 110 rfl (sc 111 rfl (sc 112 rfl (sc 113 rfl (sc 114 rfl (sc 115 rfl (sc 116 rfl (sc 117 rfl (sc 118 rfl (sc 119 rfl (sc 120 rfl (sc 121 rfl (sc 122 rfl (sc 123 rfl (sc 124 rfl (sc 125 rfl (sc 126 rfl sn))))))))))))))))))))))))))))))))))))))))))))))))))))))) fun a41 w41 b41 s41 => ?_
              have z41 := z40.trans (b41.mono z40.size)
              have gr := gr.below b41
              show wpList _ _ _ (_ :: _) _ _
              refine grow_step (l2 := [m]) mapF 128 130 id s41 gr rfl rfl (by decide) rfl Try.underlying41 hi0 hz0 hz1 hz2 rfl (by decide) rfl rfl rfl (by rw [hB]; exact z41.size) (by unfold maxLen; omega) (by omega) fun v42 w42 gr42 g42 y42 s42 => ?_
              have z42 := z41.grown g42 z41.size fun k e => by rw [← hB]; exact own_base gr.own e
              refine chainT (t := []) (cc rfl (p_assign g0 (od rfl id))
                  (cc rfl (p_assign g0 (od rfl id)) cn)) (by kernel_rfl) s42 fun a43 w43 b43 s43 => wpList_done ?_
              have z43 := z42.trans (b43.mono z42.size)
              have gr42 := gr42.below b43
              refine wp_seq ?_
              refine flowC mixed (s43.keep (sc 0 rfl (sc 1 rfl (sc 4 rfl (sc 5 rfl (sc 6 rfl (sc 7 rfl (sc 8 rfl (sc 15 rfl (sc 18 rfl (sc 19 rfl (sc 20 rfl (sc 30 rfl (sc 31 rfl (sc 32 rfl (sc 33 rfl (sc 34 rfl (sc 35 rfl (sc 36 rfl (sc 37 rfl (sc 38 rfl (sc 39 rfl (sc 40 rfl (sc 41 rfl (sc 42 rfl (sc 43 rfl (sc 44 rfl (sc 85 rfl (sc 86 rfl (sc 87 rfl (sc 88 rfl (sc 89 rfl (sc 90 rfl (sc 91 rfl (sc 101 rfl (sc 102 rfl (sc 107 rfl (sc 108 rfl (sc 109 rfl (sc 110 rfl (sc 111 rfl (sc 112 rfl (sc 113 rfl (sc 114 rfl (sc 115 rfl (sc 116 rfl (sc 117 rfl (sc 118 rfl (sc 119 rfl (sc 120 rfl (sc 121 rfl (sc 122 rfl (sc 123 rfl (sc 124 rfl (sc 125 rfl (sc 126 rfl (sc 127 rfl (sc 128 rfl (sc 129 rfl (sc 130 rfl (sc 131 rfl sn))))))))))))))))))))))))))))))))))))))))))))))))))))))))))))) (by kernel_rfl) (by kernel_rfl) (cc rfl (p_move g0 (od rfl id))
                  (cc rfl (p_len ln_41 g0 (od rfl id))
                  (cc rfl (p_move g0 (od2 rfl id))
                  (cc rfl (p_len ln_41 g0 (od rfl id))
                  (cc rfl (p_bin g0 (od rfl id) (od rfl id) b_neq_3)
                  (cc rfl (p_move g0 (od rfl id))
                  (cc rfl (p_move (g1 rfl rfl) (od rfl (fun _ => rfl)))
                  (cc rfl (p_call 23 (g1 rfl rfl) (ox (od rfl id) ox0) (fun _ _ => by kernel_rfl) (f23 (by unfold maxLen; omega)))
                  (cc rfl (p_not (g1 rfl rfl) (od rfl id))
                  (cc rfl (p_or g0 (od rfl id) (od rfl id)) cn)))))))))) fun a44 w44 b44 s44 => ?_
              have z44 := z43.trans (b44.mono z43.size)
              have gr42 := gr42.below b44
              refine s44.cond 141 rfl (fun h => absurd h (by rw [twin_quiet tw3]; simp)) fun _ => ?_
              refine wp_skip ?_
              refine flowT (s44.keep (sc 0 rfl (sc 1 rfl (sc 4 rfl (sc 5 rfl (sc 6 rfl (sc 7 rfl (sc 8 rfl (sc 15 rfl (sc 18 rfl (sc 19 rfl (sc 20 rfl (sc 30 rfl (sc 31 rfl (sc 32 rfl (sc 33 rfl (sc 34 rfl (sc 35 rfl (sc 36 rfl (sc 37 rfl (sc 38 rfl (sc 39 rfl (sc 40 rfl (sc 41 rfl (sc 42 rfl (sc 43 rfl (sc 44 rfl (sc 85 rfl (sc 86 rfl (sc 87 rfl (sc 88 rfl (sc 89 rfl (sc 90 rfl (sc 91 rfl (sc 101 rfl (sc 102 rfl (sc 107 rfl (sc 108 rfl (sc 109 rfl (sc 110 rfl (sc 111 rfl (sc 112 rfl (sc 113 rfl (sc 114 rfl (sc 115 rfl (sc 116 rfl (sc 117 rfl (sc 118 rfl (sc 119 rfl (sc 120 rfl (sc 121 rfl (sc 122 rfl (sc 123 rfl (sc 124 rfl (sc 125 rfl (sc 126 rfl (sc 127 rfl (sc 128 rfl (sc 129 rfl (sc 130 rfl (sc 131 rfl (sc 132 rfl (sc 133 rfl (sc 134 rfl (sc 135 rfl (sc 136 rfl (sc 137 rfl (sc 138 rfl (sc 139 rfl (sc 140 rfl (sc 141 rfl sn))))))))))))))))))))))))))))))))))))))))))))))))))))))))))))))))))))))) (by kernel_rfl) (cc rfl (p_bin g0 (od rfl id) (oc _) (inc_3 (by omega)))
                  (cc rfl (p_move g0 (od rfl id)) cn)) fun a45 w45 b45 s45 => ?_
              have z45 := z44.trans (b45.mono z44.size)
              have gr42 := gr42.below b45
              exact ⟨hlt, v42, (insM G m), (W ++ [m]), tw3, gr42, s45.to _ ⟨rfl, rfl, rfl, rfl, rfl, rfl, rfl, rfl, True.intro⟩, z45⟩
            · -- false
              refine wp_skip ?_
              refine wp_seq ?_
              refine flowC mixed (s40.keep (sc 0 rfl (sc 1 rfl (sc 4 rfl (sc 5 rfl (sc 6 rfl (sc 7 rfl (sc 8 rfl (sc 15 rfl (sc 18 rfl (sc 19 rfl (sc 20 rfl (sc 30 rfl (sc 31 rfl (sc 32 rfl (sc 33 rfl (sc 34 rfl (sc 35 rfl (sc 36 rfl (sc 37 rfl (sc 38 rfl (sc 39 rfl (sc 40 rfl (sc 41 rfl (sc 42 rfl (sc 43 rfl (sc 44 rfl (sc 85 rfl (sc 86 rfl (sc 87 rfl (sc 88 rfl (sc 89 rfl (sc 90 rfl (sc 91 rfl (sc 101 rfl (sc 102 rfl (sc 107 rfl (sc 108 rfl (sc 109 rfl (sc 110 rfl (sc 111 rfl (sc 112 rfl (sc 113 rfl (sc 114 rfl (sc 115 rfl (sc 116 rfl (sc 117 rfl (sc 118 rfl (sc 119 rfl (sc 120 rfl (sc 121 rfl (sc 122 rfl (sc 123 rfl (sc 124 rfl (sc 125 rfl (sc 126 rfl sn)))))))))))))))))))))))))))))))))))))))))))))))))))))))) (by kernel_rfl) (by kernel_rfl) (cc rfl (p_move g0 (od rfl id))
                  (cc rfl (p_len ln_41 g0 (od rfl id))
                  (cc rfl (p_move g0 (od2 rfl id))
                  (cc rfl (p_len ln_41 g0 (od rfl id))
                  (cc rfl (p_bin g0 (od rfl id) (od rfl id) b_neq_3)
                  (cc rfl (p_move g0 (od rfl id))
                  (cc rfl (p_move (g1 rfl rfl) (od rfl (fun _ => rfl)))
                  (cc rfl (p_call 23 (g1 rfl rfl) (ox (od rfl id) ox0) (fun _ _ => by kernel_rfl) (f23 (by unfold maxLen; omega)))
                  (cc rfl (p_not (g1 rfl rfl) (od rfl id))
                  (cc rfl (p_or g0 (od rfl id) (od rfl id)) cn)))))))))) fun a46 w46 b46 s46 => ?_
              have z46 := z40.trans (b46.mono z40.size)
              have gr := gr.below b46
              refine s46.cond 141 rfl (fun h => absurd h (by rw [twin_quiet tw]; simp)) fun _ => ?_
              refine wp_skip ?_
              refine flowT (s46.keep (sc 0 rfl (sc 1 rfl (sc 4 rfl (sc 5 rfl (sc 6 rfl (sc 7 rfl (sc 8 rfl (sc 15 rfl (sc 18 rfl (sc 19 rfl (sc 20 rfl (sc 30 rfl (sc 31 rfl (sc 32 rfl (sc 33 rfl (sc 34 rfl (sc 35 rfl (sc 36 rfl (sc 37 rfl (sc 38 rfl (sc 39 rfl (sc 40 rfl (sc 41 rfl (sc 42 rfl (sc 43 rfl (sc 44 rfl (sc 85 rfl (sc 86 rfl (sc 87 rfl (sc 88 rfl (sc 89 rfl (sc 90 rfl (sc 91 rfl (sc 101 rfl (sc 102 rfl (sc 107 rfl (sc 108 rfl (sc 109 rfl (sc 110 rfl (sc 111 rfl (sc 112 rfl (sc 113 rfl (sc 114 rfl (sc 115 rfl (sc 116 rfl (sc 117 rfl (sc 118 rfl (sc 119 rfl (sc 120 rfl (sc 121 rfl (sc 122 rfl (sc 123 rfl (sc 124 rfl (sc 125 rfl (sc 126 rfl (sc 132 rfl (sc 133 rfl (sc 134 rfl (sc 135 rfl (sc 136 rfl (sc 137 rfl (sc 138 rfl (sc 139 rfl (sc 140 rfl (sc 141 rfl sn)))))))))))))))))))))))))))))))))))))))))))))))))))))))))))))))))) (by kernel_rfl) (cc rfl (p_bin g0 (od rfl id) (oc _) (inc_3 (by omega)))
                  (cc rfl (p_move g0 (od rfl id)) cn)) fun a47 w47 b47 s47 => ?_
              have z47 := z46.trans (b47.mono z46.size)
              have gr := gr.below b47
              exact ⟨hlt, v, G, W, tw, gr, s47.to _ ⟨rfl, rfl, rfl, rfl, rfl, rfl, rfl, rfl, True.intro⟩, z47⟩
          · -- false
            refine wp_seq ?_
            refine flowC mixed (s36.keep (sc 0 rfl (sc 1 rfl (sc 4 rfl (sc 5 rfl (sc 6 rfl (sc 7 rfl (sc 8 rfl (sc 15 rfl (sc 18 rfl (sc 30 rfl (sc 31 rfl (sc 32 rfl (sc 33 rfl (sc 34 rfl (sc 35 rfl (sc 36 rfl (sc 37 rfl (sc 38 rfl (sc 39 rfl (sc 40 rfl (sc 41 rfl (sc 42 rfl (sc 43 rfl (sc 44 rfl (sc 85 rfl (sc 86 rfl (sc 87 rfl (sc 88 rfl (sc 89 rfl (sc 90 rfl (sc 91 rfl (sc 101 rfl (sc 102 rfl sn)))))))))))))))))))))))))))))))))) (by kernel_rfl) (by kernel_rfl) (cc rfl (p_move g0 (od2 rfl id))
                (cc rfl (p_len ln_41 g0 (od rfl id))
                (cc rfl (p_bin g0 (od rfl id) (oc _) b_eql_3)
                (cc rfl (p_assign g0 (od rfl id)) cn)))) fun a48 w48 b48 s48 => ?_
            have z48 := z36.trans (b48.mono z36.size)
            have gr := gr.below b48
            refine s48.cond 103 rfl (fun h103 => ?_) (fun h103 => ?_)
            · -- true
              refine flowT (s48.keep (sc 0 rfl (sc 1 rfl (sc 4 rfl (sc 5 rfl (sc 6 rfl (sc 7 rfl (sc 8 rfl (sc 15 rfl (sc 18 rfl (sc 30 rfl (sc 31 rfl (sc 32 rfl (sc 33 rfl (sc 34 rfl (sc 35 rfl (sc 36 rfl (sc 37 rfl (sc 38 rfl (sc 39 rfl (sc 40 rfl (sc 41 rfl (sc 42 rfl (sc 43 rfl (sc 44 rfl (sc 85 rfl (sc 86 rfl (sc 87 rfl (sc 88 rfl (sc 89 rfl (sc 90 rfl (sc 91 rfl (sc 101 rfl (sc 102 rfl (sc 103 rfl (sc 104 rfl (sc 105 rfl (sc 106 rfl sn)))))))))))))))))))))))))))))))))))))) (by kernel_rfl) (cc rfl (p_assign g0 (oc _)) cn) fun a49 w49 b49 s49 => ?_
              have z49 := z48.trans (b49.mono z48.size)
              have gr := gr.below b49
              have s49 := s49.more 18 (y := .int .i64 (errW W m)) (int_as (s49.get 18 rfl) (err_7 h101 h103))
              refine wp_seq ?_
              refine flowC mixed (s49.keep (sc 0 rfl (sc 1 rfl (sc 4 rfl (sc 5 rfl (sc 6 rfl (sc 7 rfl (sc 8 rfl (sc 15 rfl (sc 18 rfl (sc 30 rfl (sc 31 rfl (sc 32 rfl (sc 33 rfl (sc 34 rfl (sc 35 rfl (sc 36 rfl (sc 37 rfl (sc 38 rfl (sc 39 rfl (sc 40 rfl (sc 41 rfl (sc 42 rfl (sc 43 rfl (sc 44 rfl (sc 85 rfl (sc 86 rfl (sc 87 rfl (sc 88 rfl (sc 89 rfl (sc 90 rfl (sc 91 rfl (sc 101 rfl (sc 102 rfl (sc 103 rfl (sc 104 rfl (sc 105 rfl (sc 106 rfl sn)))))))))))))))))))))))))))))))))))))) (by kernel_rfl) (by kernel_rfl) (cc rfl (p_move g0 (od rfl id))
                  (cc rfl (p_load Try.underlying69 rfl sz_69 g0 (od rfl id))
                  (cc rfl (p_call 24 g0 (ox (od rfl id) (ox (od rfl id) ox0)) (fun _ _ => by kernel_rfl) (f24 (by omega)))
                  (cc rfl (p_move g0 (od rfl id))
                  (cc rfl (p_ext0 g0 (od rfl id))
                  (cc rfl (p_ext1 g0 (od rfl id))
                  (cc rfl (p_assign g0 (od rfl id))
                  (cc rfl (p_assign g0 (od rfl id)) cn)))))))) fun a50 w50 b50 s50 => ?_
              have z50 := z49.trans (b50.mono z49.size)
              have gr := gr.below b50
              obtain ⟨ha1, ha2, ha3⟩ := tw.add m
              have s50 := s50.more 20 (y := .int .i64 (errW W m)) (int_as (s50.get 20 rfl) ha1)
              refine wp_seq ?_
              refine wp_seq ?_
              refine flowC mixed (s50.keep (sc 0 rfl (sc 1 rfl (sc 4 rfl (sc 5 rfl (sc 6 rfl (sc 7 rfl (sc 8 rfl (sc 15 rfl (sc 18 rfl (sc 19 rfl (sc 20 rfl (sc 30 rfl (sc 31 rfl (sc 32 rfl (sc 33 rfl (sc 34 rfl (sc 35 rfl (sc 36 rfl (sc 37 rfl (sc 38 rfl (sc 39 rfl (sc 40 rfl (sc 41 rfl (sc 42 rfl (sc 43 rfl (sc 44 rfl (sc 85 rfl (sc 86 rfl (sc 87 rfl (sc 88 rfl (sc 89 rfl (sc 90 rfl (sc 91 rfl (sc 101 rfl (sc 102 rfl (sc 103 rfl (sc 104 rfl (sc 105 rfl (sc 106 rfl (sc 107 rfl (sc 108 rfl (sc 109 rfl (sc 110 rfl (sc 111 rfl (sc 112 rfl sn)))))))))))))))))))))))))))))))))))))))))))))) (by kernel_rfl) (by kernel_rfl) (cc rfl (p_move g0 (od rfl id))
                  (cc rfl (p_move g0 (od rfl id))
                  (cc rfl (p_bin g0 (od rfl id) (od rfl id) b_neq_73)
                  (cc rfl (p_move g0 (od rfl id))
                  (cc rfl (p_move (g1 rfl rfl) (od rfl (fun _ => rfl)))
                  (cc rfl (p_bin (g1 rfl rfl) (od rfl id) (oc _) b_neq_73)
                  (cc rfl (p_move (g1 rfl rfl) (od rfl id))
                  (cc rfl (p_move (g1 rfl rfl) (od rfl (fun _ => rfl)))
                  (cc rfl (p_len ln_41 (g1 rfl rfl) (od rfl id))
                  (cc rfl (p_bin (g1 rfl rfl) (od rfl id) (oc _) b_gtr_3)
                  (cc rfl (p_and (g1 rfl rfl) (od rfl id) (od rfl id))
                  (cc rfl (p_or g0 (od rfl id) (od rfl id)) cn)))))))))))) fun a51 w51 b51 s51 => ?_
              have z51 := z50.trans (b51.mono z50.size)
              have gr := gr.below b51
              refine s51.cond 124 rfl (fun h => absurd h (by rw [add_quiet ha2]; simp)) fun _ => ?_
              refine wp_skip ?_
              refine wp_seq ?_
              refine wp_seq ?_
              refine flowC mixed (s51.keep (sc 0 rfl (sc 1 rfl (sc 4 rfl (sc 5 rfl (sc 6 rfl (sc 7 rfl (sc 8 rfl (sc 15 rfl (sc 18 rfl (sc 19 rfl (sc 20 rfl (sc 30 rfl (sc 31 rfl (sc 32 rfl (sc 33 rfl (sc 34 rfl (sc 35 rfl (sc 36 rfl (sc 37 rfl (sc 38 rfl (sc 39 rfl (sc 40 rfl (sc 41 rfl (sc 42 rfl (sc 43 rfl (sc 44 rfl (sc 85 rfl (sc 86 rfl (sc 87 rfl (sc 88 rfl (sc 89 rfl (sc 90 rfl (sc 91 rfl (sc 101 rfl (sc 102 rfl (sc 103 rfl (sc 104 rfl (sc 105 rfl (sc 106 rfl (sc 107 rfl (sc 108 rfl (sc 109 rfl (sc 110 rfl (sc 111 rfl (sc 112 rfl (sc 113 rfl (sc 114 rfl (sc 115 rfl (sc 116 rfl (sc 117 rfl (sc 118 rfl (sc 119 rfl (sc 120 rfl (sc 121 rfl (sc 122 rfl (sc 123 rfl (sc 124 rfl sn)))))))))))))))))))))))))))))))))))))))))))))))))))))))))) (by kernel_rfl) (by kernel_rfl) (cc rfl (p_move g0 (od rfl id))
                  (cc rfl (p_bin g0 (od rfl id) (oc _) b_eql_73) cn)) fun a52 w52 b52 s52 => ?_
              have z52 := z51.trans (b52.mono z51.size)
              have gr := gr.below b52
              refine s52.cond 126 rfl (fun h126 => ?_) (fun h126 => ?_)
              · -- true
                obtain ⟨ha4, tw3⟩ := ha3 (by simpa using h126)
                have hW3 := tw3.len
                have hG3 := twin_len tw3
                have s52 := s52.more 19 (y := .one (Lay.sl mapL) (insM G m)) (by have q := s52.get 19 rfl; rw [ha4] at q; exact q)
                refine wp_region_lit ?_
                refine chainK 4 (cc rfl (p_move g0 (od rfl id))
                    (cc rfl (p_move g0 (od rfl id))
                    (cc rfl (p_load Try.underlying69 rfl sz_69 g0 (od rfl id))
                    (cc rfl (p_lit mapF bs_41 g0 (od rfl id)) cn)))) (by kernel_rfl) (s52.keep (sc 0 rfl (sc 1 rfl (sc 4 rfl (sc 6 rfl (sc 7 rfl (sc 8 rfl (sc 15 rfl (sc 18 rfl (sc 19 rfl (sc 20 rfl (sc 30 rfl (sc 31 rfl (sc 32 rfl (sc 33 rfl (sc 34 rfl (sc 35 rfl (sc 36 rfl (sc 37 rfl (sc 38 rfl (sc 39 rfl (sc 40 rfl (sc 41 rfl (sc 42 rfl (sc 43 rfl (sc 44 rfl (sc 85 rfl (sc 86 rfl (sc 87 rfl (sc 88 rfl (sc 89 rfl (sc 90 rfl (sc 91 rfl (sc 101 rfl (sc 102 rfl (sc 103 rfl (sc 104 rfl (sc 105 rfl (sc 106 rfl (sc 107 rfl (sc 108 rfl (sc 109 rfl (sc 110 rfl (sc 111 rfl (sc 112 rfl (sc 113 rfl (sc 114 rfl (sc 115 rfl (sc 116 rfl (sc 117 rfl (sc 118 rfl (sc 119 rfl (sc 120 rfl (sc 121 rfl (sc 122 rfl (sc 123 rfl (sc 124 rfl (sc 125 rfl (sc 126 rfl sn))))))))))))))))))))))))))))))))))))))))))))))))))))))))))) fun a53 w53 b53 s53 => ?_
                have z53 := z52.trans (b53.mono z52.size)
                have gr := gr.below b53
                show wpList _ _ _ (_ :: _) _ _
                refine grow_step (l2 := [m]) mapF 128 130 id s53 gr rfl rfl (by decide) rfl Try.underlying41 hi0 hz0 hz1 hz2 rfl (by decide) rfl rfl rfl (by rw [hB]; exact z53.size) (by unfold maxLen; omega) (by omega) fun v54 w54 gr54 g54 y54 s54 => ?_
                have z54 := z53.grown g54 z53.size fun k e => by rw [← hB]; exact own_base gr.own e
                refine chainT (t := []) (cc rfl (p_assign g0 (od rfl id))
                    (cc rfl (p_assign g0 (od rfl id)) cn)) (by kernel_rfl) s54 fun a55 w55 b55 s55 => wpList_done ?_
                have z55 := z54.trans (b55.mono z54.size)
                have gr54 := gr54.below b55
                refine wp_seq ?_
                refine flowC mixed (s55.keep (sc 0 rfl (sc 1 rfl (sc 4 rfl (sc 5 rfl (sc 6 rfl (sc 7 rfl (sc 8 rfl (sc 15 rfl (sc 18 rfl (sc 19 rfl (sc 20 rfl (sc 30 rfl (sc 31 rfl (sc 32 rfl (sc 33 rfl (sc 34 rfl (sc 35 rfl (sc 36 rfl (sc 37 rfl (sc 38 rfl (sc 39 rfl (sc 40 rfl (sc 41 rfl (sc 42 rfl (sc 43 rfl (sc 44 rfl (sc 85 rfl (sc 86 rfl (sc 87 rfl (sc 88 rfl (sc 89 rfl (sc 90 rfl (sc 91 rfl (sc 101 rfl (sc 102 rfl (sc 103 rfl (sc 104 rfl (sc 105 rfl (sc 106 rfl (sc 107 rfl (sc 108 rfl (sc 109 rfl (sc 110 rfl (sc 111 rfl (sc 112 rfl (sc 113 rfl (sc 114 rfl (sc 115 rfl (sc 116 rfl (sc 117 rfl (sc 118 rfl (sc 119 rfl (sc 120 rfl (sc 121 rfl (sc 122 rfl (sc 123 rfl (sc 124 rfl (sc 125 rfl (sc 126 rfl (sc 127 rfl (sc 128 rfl (sc 129 rfl (sc 130 rfl (sc 131 rfl sn))))))))))))))))))))))))))))))))))))))))))))))))))))))))))))))))) (by kernel_rfl) (by kernel_rfl) (cc rfl (p_move g0 (od rfl id))
                    (cc rfl (p_len ln_41 g0 (od rfl id))
                    (cc rfl (p_move g0 (od2 rfl id))
                    (cc rfl (p_len ln_41 g0 (od rfl id))
                    (cc rfl (p_bin g0 (od rfl id) (od rfl id) b_neq_3)
                    (cc rfl (p_move g0 (od rfl id))
                    (cc rfl (p_move (g1 rfl rfl) (od rfl (fun _ => rfl)))
                    (cc rfl (p_call 23 (g1 rfl rfl) (ox (od rfl id) ox0) (fun _ _ => by kernel_rfl) (f23 (by unfold maxLen; omega)))
                    (cc rfl (p_not (g1 rfl rfl) (od rfl id))
                    (cc rfl (p_or g0 (od rfl id) (od rfl id)) cn)))))))))) fun a56 w56 b56 s56 => ?_
                have z56 := z55.trans (b56.mono z55.size)
                have gr54 := gr54.below b56
                refine s56.cond 141 rfl (fun h => absurd h (by rw [twin_quiet tw3]; simp)) fun _ => ?_
                refine wp_skip ?_
                refine flowT (s56.keep (sc 0 rfl (sc 1 rfl (sc 4 rfl (sc 5 rfl (sc 6 rfl (sc 7 rfl (sc 8 rfl (sc 15 rfl (sc 18 rfl (sc 19 rfl (sc 20 rfl (sc 30 rfl (sc 31 rfl (sc 32 rfl (sc 33 rfl (sc 34 rfl (sc 35 rfl (sc 36 rfl (sc 37 rfl (sc 38 rfl (sc 39 rfl (sc 40 rfl (sc 41 rfl (sc 42 rfl (sc 43 rfl (sc 44 rfl (sc 85 rfl (sc 86 rfl (sc 87 rfl (sc 88 rfl (sc 89 rfl (sc 90 rfl (sc 91 rfl (sc 101 rfl (sc 102 rfl (sc 103 rfl (sc 104 rfl (sc 105 rfl (sc 106 rfl (sc 107 rfl (sc 108 rfl (sc 109 rfl (sc 110 rfl (sc 111 rfl (sc 112 rfl (sc 113 rfl (sc 114 rfl (sc 115 rfl (sc 116 rfl (sc 117 rfl (sc 118 rfl (sc 119 rfl (sc 120 rfl (sc 121 rfl (sc 122 rfl (sc 123 rfl (sc 124 rfl (sc 125 rfl (sc 126 rfl (sc 127 rfl (sc 128 rfl (sc 129 rfl (sc 130 rfl (sc 131 rfl (sc 132 rfl (sc 133 rfl (sc 134 rfl (sc 135 rfl (sc 136 rfl (sc 137 rfl (sc 138 rfl (sc 139 rfl (sc 140 rfl (sc 141 rfl sn))))))))))))))))))))))))))))))))))))))))))))))))))))))))))))))))))))))))))) (by kernel_rfl) (cc rfl (p_bin g0 (od rfl id) (oc _) (inc_3 (by omega)))
                    (cc rfl (p_move g0 (od rfl id)) cn)) fun a57 w57 b57 s57 => ?_
                have z57 := z56.trans (b57.mono z56.size)
                have gr54 := gr54.below b57
                exact ⟨hlt, v54, (insM G m), (W ++ [m]), tw3, gr54, s57.to _ ⟨rfl, rfl, rfl, rfl, rfl, rfl, rfl, rfl, True.intro⟩, z57⟩
              · -- false
                refine wp_skip ?_
                refine wp_seq ?_
                refine flowC mixed (s52.keep (sc 0 rfl (sc 1 rfl (sc 4 rfl (sc 5 rfl (sc 6 rfl (sc 7 rfl (sc 8 rfl (sc 15 rfl (sc 18 rfl (sc 19 rfl (sc 20 rfl (sc 30 rfl (sc 31 rfl (sc 32 rfl (sc 33 rfl (sc 34 rfl (sc 35 rfl (sc 36 rfl (sc 37 rfl (sc 38 rfl (sc 39 rfl (sc 40 rfl (sc 41 rfl (sc 42 rfl (sc 43 rfl (sc 44 rfl (sc 85 rfl (sc 86 rfl (sc 87 rfl (sc 88 rfl (sc 89 rfl (sc 90 rfl (sc 91 rfl (sc 101 rfl (sc 102 rfl (sc 103 rfl (sc 104 rfl (sc 105 rfl (sc 106 rfl (sc 107 rfl (sc 108 rfl (sc 109 rfl (sc 110 rfl (sc 111 rfl (sc 112 rfl (sc 113 rfl (sc 114 rfl (sc 115 rfl (sc 116 rfl (sc 117 rfl (sc 118 rfl (sc 119 rfl (sc 120 rfl (sc 121 rfl (sc 122 rfl (sc 123 rfl (sc 124 rfl (sc 125 rfl (sc 126 rfl sn)))))))))))))))))))))))))))))))))))))))))))))))))))))))))))) (by kernel_rfl) (by kernel_rfl) (cc rfl (p_move g0 (od rfl id))
                    (cc rfl (p_len ln_41 g0 (od rfl id))
                    (cc rfl (p_move g0 (od2 rfl id))
                    (cc rfl (p_len ln_41 g0 (od rfl id))
                    (cc rfl (p_bin g0 (od rfl id) (od rfl id) b_neq_3)
                    (cc rfl (p_move g0 (od rfl id))
                    (cc rfl (p_move (g1 rfl rfl) (od rfl (fun _ => rfl)))
                    (cc rfl (p_call 23 (g1 rfl rfl) (ox (od rfl id) ox0) (fun _ _ => by kernel_rfl) (f23 (by unfold maxLen; omega)))
                    (cc rfl (p_not (g1 rfl rfl) (od rfl id))
                    (cc rfl (p_or g0 (od rfl id) (od rfl id)) cn)))))))))) fun a58 w58 b58 s58 => ?_
                have z58 := z52.trans (b58.mono z52.size)
                have gr := gr.below b58
                refine s58.cond 141 rfl (fun h => absurd h (by rw [twin_quiet tw]; simp)) fun _ => ?_
                refine wp_skip ?_
                refine flowT (s58.keep (sc 0 rfl (sc 1 rfl (sc 4 rfl (sc 5 rfl (sc 6 rfl (sc 7 rfl (sc 8 rfl (sc 15 rfl (sc 18 rfl (sc 19 rfl (sc 20 rfl (sc 30 rfl (sc 31 rfl (sc 32 rfl (sc 33 rfl (sc 34 rfl (sc 35 rfl (sc 36 rfl (sc 37 rfl (sc 38 rfl (sc 39 rfl (sc 40 rfl (sc 41 rfl (sc 42 rfl (sc 43 rfl (sc 44 rfl (sc 85 rfl (sc 86 rfl (sc 87 rfl (sc 88 rfl (sc 89 rfl (sc 90 rfl (sc 91 rfl (sc 101 rfl (sc 102 rfl (sc 103 rfl (sc 104 rfl (sc 105 rfl (sc 106 rfl (sc 107 rfl (sc 108 rfl (sc 109 rfl (sc 110 rfl (sc 111 rfl (sc 112 rfl (sc 113 rfl (sc 114 rfl (sc 115 rfl (sc 116 rfl (sc 117 rfl (sc 118 rfl (sc 119 rfl (sc 120 rfl (sc 121 rfl (sc 122 rfl (sc 123 rfl (sc 124 rfl (sc 125 rfl (sc 126 rfl (sc 132 rfl (sc 133 rfl (sc 134 rfl (sc 135 rfl (sc 136 rfl (sc 137 rfl (sc 138 rfl (sc 139 rfl (sc 140 rfl (sc 141 rfl sn)))))))))))))))))))))))))))))))))))))))))))))))))))))))))))))))))))))) (by kernel_rfl) (cc rfl (p_bin g0 (od rfl id) (oc _) (inc_3 (by omega)))
                    (cc rfl (p_move g0 (od rfl id)) cn)) fun a59 w59 b59 s59 => ?_
                have z59 := z58.trans (b59.mono z58.size)
                have gr := gr.below b59
                exact ⟨hlt, v, G, W, tw, gr, s59.to _ ⟨rfl, rfl, rfl, rfl, rfl, rfl, rfl, rfl, True.intro⟩, z59⟩
            · -- false
              have s48 := s48.more 18 (y := .int .i64 (errW W m)) (int_as (s48.get 18 rfl) (err_0 h101 h103))
              refine wp_skip ?_
              refine wp_seq ?_
              refine flowC mixed (s48.keep (sc 0 rfl (sc 1 rfl (sc 4 rfl (sc 5 rfl (sc 6 rfl (sc 7 rfl (sc 8 rfl (sc 15 rfl (sc 18 rfl (sc 30 rfl (sc 31 rfl (sc 32 rfl (sc 33 rfl (sc 34 rfl (sc 35 rfl (sc 36 rfl (sc 37 rfl (sc 38 rfl (sc 39 rfl (sc 40 rfl (sc 41 rfl (sc 42 rfl (sc 43 rfl (sc 44 rfl (sc 85 rfl (sc 86 rfl (sc 87 rfl (sc 88 rfl (sc 89 rfl (sc 90 rfl (sc 91 rfl (sc 101 rfl (sc 102 rfl (sc 103 rfl (sc 104 rfl (sc 105 rfl (sc 106 rfl sn)))))))))))))))))))))))))))))))))))))) (by kernel_rfl) (by kernel_rfl) (cc rfl (p_move g0 (od rfl id))
                  (cc rfl (p_load Try.underlying69 rfl sz_69 g0 (od rfl id))
                  (cc rfl (p_call 24 g0 (ox (od rfl id) (ox (od rfl id) ox0)) (fun _ _ => by kernel_rfl) (f24 (by omega)))
                  (cc rfl (p_move g0 (od rfl id))
                  (cc rfl (p_ext0 g0 (od rfl id))
                  (cc rfl (p_ext1 g0 (od rfl id))
                  (cc rfl (p_assign g0 (od rfl id))
                  (cc rfl (p_assign g0 (od rfl id)) cn)))))))) fun a60 w60 b60 s60 => ?_
              have z60 := z48.trans (b60.mono z48.size)
              have gr := gr.below b60
              obtain ⟨ha1, ha2, ha3⟩ := tw.add m
              have s60 := s60.more 20 (y := .int .i64 (errW W m)) (int_as (s60.get 20 rfl) ha1)
              refine wp_seq ?_
              refine wp_seq ?_
              refine flowC mixed (s60.keep (sc 0 rfl (sc 1 rfl (sc 4 rfl (sc 5 rfl (sc 6 rfl (sc 7 rfl (sc 8 rfl (sc 15 rfl (sc 18 rfl (sc 19 rfl (sc 20 rfl (sc 30 rfl (sc 31 rfl (sc 32 rfl (sc 33 rfl (sc 34 rfl (sc 35 rfl (sc 36 rfl (sc 37 rfl (sc 38 rfl (sc 39 rfl (sc 40 rfl (sc 41 rfl (sc 42 rfl (sc 43 rfl (sc 44 rfl (sc 85 rfl (sc 86 rfl (sc 87 rfl (sc 88 rfl (sc 89 rfl (sc 90 rfl (sc 91 rfl (sc 101 rfl (sc 102 rfl (sc 103 rfl (sc 104 rfl (sc 105 rfl (sc 106 rfl (sc 107 rfl (sc 108 rfl (sc 109 rfl (sc 110 rfl (sc 111 rfl (sc 112 rfl sn)))))))))))))))))))))))))))))))))))))))))))))) (by kernel_rfl) (by kernel_rfl) (cc rfl (p_move g0 (od rfl id))
                  (cc rfl (p_move g0 (od rfl id))
                  (cc rfl (p_bin g0 (od rfl id) (od rfl id) b_neq_73)
                  (cc rfl (p_move g0 (od rfl id))
                  (cc rfl (p_move (g1 rfl rfl) (od rfl (fun _ => rfl)))
                  (cc rfl (p_bin (g1 rfl rfl) (od rfl id) (oc _) b_neq_73)
                  (cc rfl (p_move (g1 rfl rfl) (od rfl id))
                  (cc rfl (p_move (g1 rfl rfl) (od rfl (fun _ => rfl)))
                  (cc rfl (p_len ln_41 (g1 rfl rfl) (od rfl id))
                  (cc rfl (p_bin (g1 rfl rfl) (od rfl id) (oc _) b_gtr_3)
                  (cc rfl (p_and (g1 rfl rfl) (od rfl id) (od rfl id))
                  (cc rfl (p_or g0 (od rfl id) (od rfl id)) cn)))))))))))) fun a61 w61 b61 s61 => ?_
              have z61 := z60.trans (b61.mono z60.size)
              have gr := gr.below b61
              refine s61.cond 124 rfl (fun h => absurd h (by rw [add_quiet ha2]; simp)) fun _ => ?_
              refine wp_skip ?_
              refine wp_seq ?_
              refine wp_seq ?_
              refine flowC mixed (s61.keep (sc 0 rfl (sc 1 rfl (sc 4 rfl (sc 5 rfl (sc 6 rfl (sc 7 rfl (sc 8 rfl (sc 15 rfl (sc 18 rfl (sc 19 rfl (sc 20 rfl (sc 30 rfl (sc 31 rfl (sc 32 rfl (sc 33 rfl (sc 34 rfl (sc 35 rfl (sc 36 rfl (sc 37 rfl (sc 38 rfl (sc 39 rfl (sc 40 rfl (sc 41 rfl (sc 42 rfl (sc 43 rfl (sc 44 rfl (sc 85 rfl (sc 86 rfl (sc 87 rfl (sc 88 rfl (sc 89 rfl (sc 90 rfl (sc 91 rfl (sc 101 rfl (sc 102 rfl (sc 103 rfl (sc 104 rfl (sc 105 rfl (sc 106 rfl (sc 107 rfl (sc 108 rfl (sc 109 rfl (sc 110 rfl (sc 111 rfl (sc 112 rfl (sc 113 rfl (sc 114 rfl (sc 115 rfl (sc 116 rfl (sc 117 rfl (sc 118 rfl (sc 119 rfl (sc 120 rfl (sc 121 rfl (sc 122 rfl (sc 123 rfl (sc 124 rfl sn)))))))))))))))))))))))))))))))))))))))))))))))))))))))))) (by kernel_rfl) (by kernel_rfl) (cc rfl (p_move g0 (od rfl id))
                  (cc rfl (p_bin g0 (od rfl id) (oc _) b_eql_73) cn)) fun a62 w62 b62 s62 => ?_
              have z62 := z61.trans (b62.mono z61.size)
              have gr := gr.below b62
              refine s62.cond 126 rfl (fun h126 => ?_) (fun h126 => ?_)
              · -- true
                obtain ⟨ha4, tw3⟩ := ha3 (by simpa using h126)
                have hW3 := tw3.len
                have hG3 := twin_len tw3
                have s62 := s62.more 19 (y := .one (Lay.sl mapL) (insM G m)) (by have q := s62.get 19 rfl; rw [ha4] at q; exact q)
                refine wp_region_lit ?_
                refine chainK 4 (cc rfl (p_move g0 (od rfl id))
                    (cc rfl (p_move g0 (od rfl id))
                    (cc rfl (p_load Try.underlying69 rfl sz_69 g0 (od rfl id))
                    (cc rfl (p_lit mapF bs_41 g0 (od rfl id)) cn)))) (by kernel_rfl) (s62.keep (sc 0 rfl (sc 1 rfl (sc 4 rfl (sc 6 rfl (sc 7 rfl (sc 8 rfl (sc 15 rfl (sc 18 rfl (sc 19 rfl (sc 20 rfl (sc 30 rfl (sc 31 rfl (sc 32 rfl (sc 33 rfl (sc 34 rfl (sc 35 rfl (sc 36 rfl (sc 37 rfl (sc 38 rfl (sc 39 rfl (sc 40 rfl (sc 41 rfl (sc 42 rfl (sc 43 rfl (sc 44 rfl (sc 85 rfl (sc 86 rfl (sc 87 rfl (sc 88 rfl (sc 89 rfl (sc 90 rfl (sc 91 rfl (sc 101 rfl (sc 102 rfl (sc 103 rfl (sc 104 rfl (sc 105 rfl (sc 106 rfl (sc 107 rfl (sc 108 rfl (sc 109 rfl (sc 110 rfl (sc 111 rfl (sc 112 rfl (sc 113 rfl (sc 114 rfl (sc 115 rfl (sc 116 rfl (sc 117 rfl (sc 118 rfl (sc 119 rfl (sc 120 rfl (sc 121 rfl (sc 122 rfl (sc 123 rfl (sc 124 rfl (sc 125 rfl (sc 126 rfl sn))))))))))))))))))))))))))))))))))))))))))))))))))))))))))) fun a63 w63 b63 s63 => ?_
                have z63 := z62.trans (b63.mono z62.size)
                have gr := gr.below b63
                show wpList _ _ _ (_ :: _) _ _
                refine grow_step (l2 := [m]) mapF 128 130 id s63 gr rfl rfl (by decide) rfl Try.underlying41 hi0 hz0 hz1 hz2 rfl (by decide) rfl rfl rfl (by rw [hB]; exact z63.size) (by unfold maxLen; omega) (by omega) fun v64 w64 gr64 g64 y64 s64 => ?_
                have z64 := z63.grown g64 z63.size fun k e => by rw [← hB]; exact own_base gr.own e
                refine chainT (t := []) (cc rfl (p_assign g0 (od rfl id))
                    (cc rfl (p_assign g0 (od rfl id)) cn)) (by kernel_rfl) s64 fun a65 w65 b65 s65 => wpList_done ?_
                have z65 := z64.trans (b65.mono z64.size)
                have gr64 := gr64.below b65
                refine wp_seq ?_
                refine flowC mixed (s65.keep (sc 0 rfl (sc 1 rfl (sc 4 rfl (sc 5 rfl (sc 6 rfl (sc 7 rfl (sc 8 rfl (sc 15 rfl (sc 18 rfl (sc 19 rfl (sc 20 rfl (sc 30 rfl (sc 31 rfl (sc 32 rfl (sc 33 rfl (sc 34 rfl (sc 35 rfl (sc 36 rfl (sc 37 rfl (sc 38 rfl (sc 39 rfl (sc 40 rfl (sc 41 rfl (sc 42 rfl (sc 43 rfl (sc 44 rfl (sc 85 rfl (sc 86 rfl (sc 87 rfl (sc 88 rfl (sc 89 rfl (sc 90 rfl (sc 91 rfl (sc 101 rfl (sc 102 rfl (sc 103 rfl (sc 104 rfl (sc 105 rfl (sc 106 rfl (sc 107 rfl (sc 108 rfl (sc 109 rfl (sc 110 rfl (sc 111 rfl (sc 112 rfl (sc 113 rfl (sc 114 rfl (sc 115 rfl (sc 116 rfl (sc 117 rfl (sc 118 rfl (sc 119 rfl (sc 120 rfl (sc 121 rfl (sc 122 rfl (sc 123 rfl (sc 124 rfl (sc 125 rfl (sc 126 rfl (sc 127 rfl (sc 128 rfl (sc 129 rfl (sc 130 rfl (sc 131 rfl sn))))))))))))))))))))))))))))))))))))))))))))))))))))))))))))))))) (by kernel_rfl) (by kernel_rfl) (cc rfl (p_move g0 (od rfl id))
                    (cc rfl (p_len ln_41 g0 (od rfl id))
                    (cc rfl (p_move g0 (od2 rfl id))
                    (cc rfl (p_len ln_41 g0 (od rfl id))
                    (cc rfl (p_bin g0 (od rfl id) (od rfl id) b_neq_3)
                    (cc rfl (p_move g0 (od rfl id))
                    (cc rfl (p_move (g1 rfl rfl) (od rfl (fun _ => rfl)))
                    (cc rfl (p_call 23 (g1 rfl rfl) (ox (od rfl id) ox0) (fun _ _ => by kernel_rfl) (f23 (by unfold maxLen; omega)))
                    (cc rfl (p_not (g1 rfl rfl) (od rfl id))
                    (cc rfl (p_or g0 (od rfl id) (od rfl id)) cn)))))))))) fun a66 w66 b66 s66 => ?_
                have z66 := z65.trans (b66.mono z65.size)
                have gr64 := gr64.below b66
                refine s66.cond 141 rfl (fun h => absurd h (by rw [twin_quiet tw3]; simp)) fun _ => ?_
                refine wp_skip ?_
                refine flowT (s66.keep (sc 0 rfl (sc 1 rfl (sc 4 rfl (sc 5 rfl (sc 6 rfl (sc 7 rfl (sc 8 rfl (sc 15 rfl (sc 18 rfl (sc 19 rfl (sc 20 rfl (sc 30 rfl (sc 31 rfl (sc 32 rfl (sc 33 rfl (sc 34 rfl (sc 35 rfl (sc 36 rfl (sc 37 rfl (sc 38 rfl (sc 39 rfl (sc 40 rfl (sc 41 rfl (sc 42 rfl (sc 43 rfl (sc 44 rfl (sc 85 rfl (sc 86 rfl (sc 87 rfl (sc 88 rfl (sc 89 rfl (sc 90 rfl (sc 91 rfl (sc 101 rfl (sc 102 rfl (sc 103 rfl (sc 104 rfl (sc 105 rfl (sc 106 rfl (sc 107 rfl (sc 108 rfl (sc 109 rfl (sc 110 rfl (sc 111 rfl (sc 112 rfl (sc 113 rfl (sc 114 rfl (sc 115 rfl (sc 116 rfl (sc 117 rfl (sc 118 rfl (sc 119 rfl (sc 120 rfl (sc 121 rfl (sc 122 rfl (sc 123 rfl (sc 124 rfl (sc 125 rfl (sc 126 rfl (sc 127 rfl (sc 128 rfl (sc 129 rfl (sc 130 rfl (sc 131 rfl (sc 132 rfl (sc 133 rfl (sc 134 rfl (sc 135 rfl (sc 136 rfl (sc 137 rfl (sc 138 rfl (sc 139 rfl (sc 140 rfl (sc 141 rfl sn))))))))))))))))))))))))))))))))))))))))))))))))))))))))))))))))))))))))))) (by kernel_rfl) (cc rfl (p_bin g0 (od rfl id) (oc _) (inc_3 (by omega)))
                    (cc rfl (p_move g0 (od rfl id)) cn)) fun a67 w67 b67 s67 => ?_
                have z67 := z66.trans (b67.mono z66.size)
                have gr64 := gr64.below b67
                exact ⟨hlt, v64, (insM G m), (W ++ [m]), tw3, gr64, s67.to _ ⟨rfl, rfl, rfl, rfl, rfl, rfl, rfl, rfl, True.intro⟩, z67⟩
              · -- false
                refine wp_skip ?_
                refine wp_seq ?_
                refine flowC mixed (s62.keep (sc 0 rfl (sc 1 rfl (sc 4 rfl (sc 5 rfl (sc 6 rfl (sc 7 rfl (sc 8 rfl (sc 15 rfl (sc 18 rfl (sc 19 rfl (sc 20 rfl (sc 30 rfl (sc 31 rfl (sc 32 rfl (sc 33 rfl (sc 34 rfl (sc 35 rfl (sc 36 rfl (sc 37 rfl (sc 38 rfl (sc 39 rfl (sc 40 rfl (sc 41 rfl (sc 42 rfl (sc 43 rfl (sc 44 rfl (sc 85 rfl (sc 86 rfl (sc 87 rfl (sc 88 rfl (sc 89 rfl (sc 90 rfl (sc 91 rfl (sc 101 rfl (sc 102 rfl (sc 103 rfl (sc 104 rfl (sc 105 rfl (sc 106 rfl (sc 107 rfl (sc 108 rfl (sc 109 rfl (sc 110 rfl (sc 111 rfl (sc 112 rfl (sc 113 rfl (sc 114 rfl (sc 115 rfl (sc 116 rfl (sc 117 rfl (sc 118 rfl (sc 119 rfl (sc 120 rfl (sc 121 rfl (sc 122 rfl (sc 123 rfl (sc 124 rfl (sc 125 rfl (sc 126 rfl sn)))))))))))))))))))))))))))))))))))))))))))))))))))))))))))) (by kernel_rfl) (by kernel_rfl) (cc rfl (p_move g0 (od rfl id))
                    (cc rfl (p_len ln_41 g0 (od rfl id))
                    (cc rfl (p_move g0 (od2 rfl id))
                    (cc rfl (p_len ln_41 g0 (od rfl id))
                    (cc rfl (p_bin g0 (od rfl id) (od rfl id) b_neq_3)
                    (cc rfl (p_move g0 (od rfl id))
                    (cc rfl (p_move (g1 rfl rfl) (od rfl (fun _ => rfl)))
                    (cc rfl (p_call 23 (g1 rfl rfl) (ox (od rfl id) ox0) (fun _ _ => by kernel_rfl) (f23 (by unfold maxLen; omega)))
                    (cc rfl (p_not (g1 rfl rfl) (od rfl id))
                    (cc rfl (p_or g0 (od rfl id) (od rfl id)) cn)))))))))) fun a68 w68 b68 s68 => ?_
                have z68 := z62.trans (b68.mono z62.size)
                have gr := gr.below b68
                refine s68.cond 141 rfl (fun h => absurd h (by rw [twin_quiet tw]; simp)) fun _ => ?_
                refine wp_skip ?_
                refine flowT (s68.keep (sc 0 rfl (sc 1 rfl (sc 4 rfl (sc 5 rfl (sc 6 rfl (sc 7 rfl (sc 8 rfl (sc 15 rfl (sc 18 rfl (sc 19 rfl (sc 20 rfl (sc 30 rfl (sc 31 rfl (sc 32 rfl (sc 33 rfl (sc 34 rfl (sc 35 rfl (sc 36 rfl (sc 37 rfl (sc 38 rfl (sc 39 rfl (sc 40 rfl (sc 41 rfl (sc 42 rfl (sc 43 rfl (sc 44 rfl (sc 85 rfl (sc 86 rfl (sc 87 rfl (sc 88 rfl (sc 89 rfl (sc 90 rfl (sc 91 rfl (sc 101 rfl (sc 102 rfl (sc 103 rfl (sc 104 rfl (sc 105 rfl (sc 106 rfl (sc 107 rfl (sc 108 rfl (sc 109 rfl (sc 110 rfl (sc 111 rfl (sc 112 rfl (sc 113 rfl (sc 114 rfl (sc 115 rfl (sc 116 rfl (sc 117 rfl (sc 118 rfl (sc 119 rfl (sc 120 rfl (sc 121 rfl (sc 122 rfl (sc 123 rfl (sc 124 rfl (sc 125 rfl (sc 126 rfl (sc 132 rfl (sc 133 rfl (sc 134 rfl (sc 135 rfl (sc 136 rfl (sc 137 rfl (sc 138 rfl (sc 139 rfl (sc 140 rfl (sc 141 rfl sn)))))))))))))))))))))))))))))))))))))))))))))))))))))))))))))))))))))) (by kernel_rfl) (cc rfl (p_bin g0 (od rfl id) (oc _) (inc_3 (by omega)))
                    (cc rfl (p_move g0 (od rfl id)) cn)) fun a69 w69 b69 s69 => ?_
                have z69 := z68.trans (b69.mono z68.size)
                have gr := gr.below b69
                exact ⟨hlt, v, G, W, tw, gr, s69.to _ ⟨rfl, rfl, rfl, rfl, rfl, rfl, rfl, rfl, True.intro⟩, z69⟩
    · -- false
      refine wp_exit ?_
      refine wp_seq ?_
      refine flowV 8 mixed (s8.keep (sc 0 rfl (sc 1 rfl (sc 4 rfl (sc 5 rfl (sc 6 rfl (sc 30 rfl (sc 31 rfl (sc 32 rfl sn))))))))) (by kernel_rfl) (cc rfl (p_move g0 (od rfl id))
          (cc rfl (p_move g0 (od rfl id))
          (cc rfl (p_call 26 g0 (ox (od rfl id) (ox (od rfl id) ox0)) (fun _ _ => by kernel_rfl) (f26 (by omega)))
          (cc rfl (p_move g0 (od rfl id))
          (cc rfl (p_ext0 g0 (od rfl id))
          (cc rfl (p_ext1 g0 (od rfl id))
          (ca rfl (m_alloc al_69 (fun h => h.elim))
          (cs rfl cn)))))))) (sv (m := 7) rfl rfl rfl rfl puts_st sz_69 (puts_nou (fun h => h.elim)) sv0) (by kernel_rfl) (by kernel_rfl) (by kernel_rfl) fun a70 w70 b70 s70 => ?_
      have z70 := z8.trans (b70.mono z8.size)
      refine chainT (t := []) (cc rfl (p_assign g0 (od rfl id)) cn) (by kernel_rfl) s70 fun a71 w71 b71 s71 => wpList_done ?_
      have z71 := z70.trans (b71.mono z70.size)
      refine wp_seq ?_
      refine wp_seq ?_
      refine flowC mixed (s71.keep (sc 0 rfl (sc 1 rfl (sc 4 rfl (sc 5 rfl (sc 6 rfl (sc 21 rfl (sc 22 rfl (sc 30 rfl (sc 31 rfl (sc 32 rfl sn))))))))))) (by kernel_rfl) (by kernel_rfl) (cc rfl (p_move g0 (od2 rfl id))
          (cc rfl (p_len ln_41 g0 (od rfl id))
          (cc rfl (p_move g0 (oc _)) cn))) fun a72 w72 b72 s72 => ?_
      have z72 := z71.trans (b72.mono z71.size)
      refine wp_block ?_
      refine wp_range W.length 151 (fun i => []) (fun i w => ∀ j, j < i → inM q (W.getD j noM) = false) (s72.keep (sc 151 rfl (sc 0 rfl (sc 1 rfl (sc 4 rfl (sc 5 rfl (sc 6 rfl (sc 21 rfl (sc 22 rfl (sc 30 rfl (sc 31 rfl (sc 32 rfl (sc 149 rfl (sc 150 rfl sn)))))))))))))) z72 ((fun j hj => absurd hj (Nat.not_lt_zero j))) fun i a73 w73 hi2 s73 z73 x73 => ?_
      refine wp_seq ?_
      refine flowC mixed (s73.keep (sc 0 rfl (sc 1 rfl (sc 4 rfl (sc 5 rfl (sc 6 rfl (sc 21 rfl (sc 22 rfl (sc 30 rfl (sc 31 rfl (sc 32 rfl (sc 149 rfl (sc 150 rfl (sc 151 rfl sn)))))))))))))) (by kernel_rfl) (by kernel_rfl) (cc rfl (p_bin g0 (od rfl id) (od rfl id) b_lss_3) cn) fun a74 w74 b74 s74 => ?_
      have z74 := z73.trans (b74.mono z73.size)
      refine wp_seq ?_
      refine s74.cond 152 rfl (fun h => ?_) (fun h => ?_)
      · -- true
        have hlt2 : i < W.length := by simpa using h
        obtain ⟨y, ey⟩ : ∃ y, W[i]? = some y := ⟨_, List.getElem?_eq_getElem hlt2⟩
        refine wp_skip ?_
        refine wp_seq ?_
        refine wp_block ?_
        refine wp_seq ?_
        refine flowQ 3 mixed (s74.keep (sc 0 rfl (sc 1 rfl (sc 4 rfl (sc 5 rfl (sc 6 rfl (sc 21 rfl (sc 22 rfl (sc 30 rfl (sc 31 rfl (sc 32 rfl (sc 149 rfl (sc 150 rfl (sc 151 rfl (sc 152 rfl sn))))))))))))))) (by kernel_rfl) (by kernel_rfl) (cc rfl (p_index ix_41 ey g0 (od rfl id) (od rfl id))
            (cc rfl (p_load Try.underlying69 rfl sz_69 g0 (od rfl id))
            (ca rfl (m_alloc al_69 (fun h => h.elim)) cn))) (by kernel_rfl) (ss rfl rfl rfl rfl puts_st sz_69 rfl rfl ss0) fun a75 w75 b75 s75 => ?_
        have z75 := z74.trans (b75.mono z74.size)
        refine wp_seq ?_
        refine flowC mixed (s75.keep (sc 0 rfl (sc 1 rfl (sc 4 rfl (sc 5 rfl (sc 6 rfl (sc 21 rfl (sc 22 rfl (sc 24 rfl (sc 30 rfl (sc 31 rfl (sc 32 rfl (sc 149 rfl (sc 150 rfl (sc 151 rfl (sc 152 rfl (sc 153 rfl (sc 154 rfl sn)))))))))))))))))) (by kernel_rfl) (by kernel_rfl) (cc rfl (p_move g0 (od rfl id))
            (cc rfl (p_fieldAddr pt69_0 fa_69_0 g0 (od rfl id))
            (cc rfl (p_loadI ld_3 g0 (od rfl id))
            (cc rfl (p_bin g0 (od rfl id) (od rfl id) b_geq_3)
            (cc rfl (p_move g0 (od rfl id))
            (cc rfl (p_move (g1 rfl rfl) (od rfl (fun _ => rfl)))
            (cc rfl (p_fieldAddr pt69_0 fa_69_0 (g1 rfl rfl) (od rfl (fun _ => rfl)))
            (cc rfl (p_loadI ld_3 (g1 rfl rfl) (od rfl id))
            (cc rfl (p_fieldAddr pt69_3 fa_69_3 (g1 rfl rfl) (od rfl (fun _ => rfl)))
            (cc rfl (p_loadI ld_3 (g1 rfl rfl) (od rfl id))
            (cc rfl (p_bin (g1 rfl rfl) (od rfl id) (od rfl id) b_add_3)
            (cc rfl (p_bin (g1 rfl rfl) (od rfl id) (od rfl id) b_lss_3)
            (cc rfl (p_and g0 (od rfl id) (od rfl id)) cn))))))))))))) fun a76 w76 b76 s76 => ?_
        have z76 := z75.trans (b76.mono z75.size)
        refine s76.cond 167 rfl (fun h167 => ?_) (fun h167 => ?_)
        · -- true
          refine wp_seq ?_
          refine flowT (s76.keep (sc 0 rfl (sc 1 rfl (sc 4 rfl (sc 5 rfl (sc 6 rfl (sc 21 rfl (sc 22 rfl (sc 24 rfl (sc 30 rfl (sc 31 rfl (sc 32 rfl (sc 149 rfl (sc 150 rfl (sc 151 rfl (sc 152 rfl (sc 153 rfl (sc 154 rfl (sc 155 rfl (sc 156 rfl (sc 157 rfl (sc 158 rfl (sc 159 rfl (sc 160 rfl (sc 161 rfl (sc 162 rfl (sc 163 rfl (sc 164 rfl (sc 165 rfl (sc 166 rfl (sc 167 rfl sn))))))))))))))))))))))))))))))) (by kernel_rfl) (cc rfl (p_move g0 (od rfl id))
              (cc rfl (p_move g0 (od rfl id))
              (cc rfl (p_load Try.underlying69 rfl sz_69 (g1 rfl rfl) (od rfl (fun _ => rfl)))
              (cc rfl (p_load Try.underlying69 rfl sz_69 (g1 rfl rfl) (od rfl (fun _ => rfl)))
              (cc rfl (p_eqM (g1 rfl rfl) (od rfl id) (od rfl id) bm_eql)
              (cc rfl (p_and g0 (od rfl id) (od rfl id))
              (cc rfl (p_assign g0 (od rfl id)) cn))))))) fun a77 w77 b77 s77 => ?_
          have z77 := z76.trans (b77.mono z76.size)
          exact wp_ret (ret_law (fn := Try.f7) s77 4 rfl rfl (find_yes tw ey h167) z77)
        · -- false
          refine wp_skip ?_
          refine flowT (s76.keep (sc 0 rfl (sc 1 rfl (sc 4 rfl (sc 5 rfl (sc 6 rfl (sc 21 rfl (sc 22 rfl (sc 24 rfl (sc 30 rfl (sc 31 rfl (sc 32 rfl (sc 149 rfl (sc 150 rfl (sc 151 rfl (sc 152 rfl (sc 153 rfl (sc 154 rfl (sc 155 rfl (sc 156 rfl (sc 157 rfl (sc 158 rfl (sc 159 rfl (sc 160 rfl (sc 161 rfl (sc 162 rfl (sc 163 rfl (sc 164 rfl (sc 165 rfl (sc 166 rfl (sc 167 rfl sn))))))))))))))))))))))))))))))) (by kernel_rfl) (cc rfl (p_bin g0 (od rfl id) (oc _) (inc_3 (by omega)))
              (cc rfl (p_move g0 (od rfl id)) cn)) fun a78 w78 b78 s78 => ?_
          have z78 := z76.trans (b78.mono z76.size)
          exact ⟨hlt2, s78.to _ ⟨rfl, rfl, rfl, rfl, rfl, rfl, rfl, rfl, rfl, rfl, rfl, rfl, rfl, True.intro⟩, z78, (miss_step x73 ey h167)⟩
      · -- false
        obtain rfl : i = W.length := by have := of_decide_eq_false h; (try dsimp only at this); omega
        refine wp_exit ?_
        refine wp_seq ?_
        refine flowT (s74.keep (sc 0 rfl (sc 1 rfl (sc 4 rfl (sc 5 rfl (sc 6 rfl (sc 21 rfl (sc 22 rfl (sc 30 rfl (sc 31 rfl (sc 32 rfl (sc 149 rfl (sc 150 rfl (sc 151 rfl sn)))))))))))))) (by kernel_rfl) (cc rfl (p_move g0 (od rfl id))
            (cc rfl (p_not g0 (od rfl id))
            (cc rfl (p_move g0 (od rfl id))
            (cc rfl (p_load Try.underlying69 rfl sz_69 (g1 rfl rfl) (od rfl (fun _ => rfl)))
            (cc rfl (p_done bz_69 (y := .st mapL noM) (fun _ _ => on_M noM) (g1 rfl rfl))
            (cc rfl (p_eqM (g1 rfl rfl) (od rfl id) (od rfl id) bm_eql)
            (cc rfl (p_and g0 (od rfl id) (od rfl id))
            (cc rfl (p_assign g0 (od rfl id)) cn)))))))) fun a79 w79 b79 s79 => ?_
        have z79 := z74.trans (b79.mono z74.size)
        exact wp_ret (ret_law (fn := Try.f7) s79 4 rfl rfl (find_no tw x73) z79)

set_option maxRecDepth 100000 in
theorem mapsRuns_lifted (os : Os) (started : os.Started) (H : Type) (enc : TypeId × Value → H) :
    ReturnsInHanded {} Try.checked os 7 .any (Rows.mapsRunsSpec.pre6 enc Try.prog Try.f7 Rows.mapsRunsRow.domain false) (Rows.mapsRunsSpec.post enc Try.prog Try.f7 false true false false) := by
  refine lifted_of (C := Try.checked) laidOut own started (by kernel_rfl) Try.func7 rfl Try.underlying4 (by kernel_rfl) rfl
    (fun ds hds => by match ds, hds with | [_, _], _ => rfl)
    (ChangeSpec.witness6 (enc := enc) (C := Try.checked) false ⟨#[], #[.slice none 0 0, .int .i64 0], []⟩ 8 (by kernel_rfl) (by kernel_rfl) (by kernel_rfl) (by kernel_rfl)) ?_
  intro w base args ds ps hval0 hA0 hlt
  have hval : ∀ (j : Nat) t v, Try.f7.params[j]? = some t → args[j]? = some v → Value.okWide Try.prog w .any base t v := hval0
  have hA : DataW.TrodAll enc Try.prog w 0 (fun _ => true) true Try.f7.params.toList args.toList ds ps := hA0
  rw [Try.params7] at hA hval
  obtain ⟨v0, vs0, d0, ds0, p0, q0, hargs, rfl, rfl, h0, r0⟩ := trodAll_cons hA
  obtain ⟨v1, vs1, d1, ds1, p1, q1, rfl, rfl, rfl, h1, r1⟩ := trodAll_cons r0
  obtain ⟨rfl, rfl, rfl⟩ := trodAll_nil r1
  obtain rfl : args = #[v0, v1] := by cases args; simp_all
  obtain ⟨x0, o0, s0⟩ := open_sl Try.underlying41 opens_maps (hval 0 41 v0 rfl rfl) h0 (fun x hx => hlt x (List.mem_append_left _ hx))
  obtain ⟨x1, rfl, rfl, rfl, o1⟩ := open_int Try.underlying3 (hval 1 3 v1 rfl rfl) h1
  exact mapsRuns_walk w v0 _ x0 _ s0 rfl

set_option maxRecDepth 100000 in
theorem mapsRuns_facts : joinedFacts Try.pinned.checked.prog 7 Try.f7 Rows.mapsRunsSpec Rows.mapsRunsRow = true := by
  show joinedFacts Try.prog 7 Try.f7 Rows.mapsRunsSpec Rows.mapsRunsRow = true
  unfold joinedFacts
  rw [mayEnter_ok, liftsFinal_ok, make_ok]
  kernel_rfl
theorem mapsRuns_holds : Rows.MapsRunsSaid :=
  OpenClaim.holds_of_wide 7 Try.f7 rfl rfl rfl rfl rfl rfl rfl ⟨rfl, rfl, rfl, rfl, rfl⟩ rfl rfl rfl rfl rfl (by kernel_rfl) Try.func7 mapsRuns_facts
    (of_decide_eq_true (by kernel_rfl)) (by unfold Func.isWrapper; rw [if_neg (of_decide_eq_false (by kernel_rfl))]; exact ⟨rfl, rfl⟩)
    (fun os started H enc _ => mapsRuns_lifted os started H enc)
#print axioms mapsRuns_holds

end Go.Proofs.Ytbeeiecbbmiojaa.Y
