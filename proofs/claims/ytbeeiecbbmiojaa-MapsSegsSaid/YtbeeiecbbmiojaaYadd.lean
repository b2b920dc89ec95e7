/- maps.Find, maps.Add. -/
import Derived.Test.YtbeeiecbbmiojaaYmap
namespace Go.Proofs.Ytbeeiecbbmiojaa.Y
open Go.RowKit

/-- Has a map a page? -/
def inM (p : Int) (m : M) : Bool := decide (m.pa ≤ p) && decide (p < IntKind.i64.wrap (m.pa + m.nn))
def noM : M := ⟨0, 0, 0, 0, false⟩
def findR (l : List M) (p : Int) : M × Bool := match l.find? (inM p) with
  | some m => (m, true)
  | none => (noM, false)
theorem bz_69 {d : Nat} {t : TypeId} {p : String} {af : Array Edge} {g : Option (Nat × Bool)} : DoneRun Try.prog ⟨some d, .build 69 #[], t, p, af, g⟩ (.agg #[.int .i64 0, .int .u64 0, .int .i64 0, .int .i64 0, .bool false]) := fun ev w h => by go_simp
theorem on_M (m : M) {w : World} {F : Cell → Prop} : (Sym.st mapL m).on w F (.agg #[.int .i64 m.pa, .int .u64 m.sg, .int .i64 m.fr, .int .i64 m.nn, .bool m.wr]) := ⟨mapE m, rfl, (mapF _ _ _ _).2 rfl⟩
theorem find_go {l : List M} {p : Int} {i : Nat} {m : M} (hx : l.find? (inM p) = (l.drop i).find? (inM p)) (hm : l[i]? = some m) (h : (decide (m.pa ≤ p) && decide (p < IntKind.i64.wrap (m.pa + m.nn))) = false) : l.find? (inM p) = (l.drop (i + 1)).find? (inM p) := by
  rw [hx, drop_at hm, List.find?_cons, show inM p m = false from h]
theorem find_hit {l : List M} {p : Int} {i : Nat} {m : M} (hx : l.find? (inM p) = (l.drop i).find? (inM p)) (hm : l[i]? = some m) (h : (decide (m.pa ≤ p) && decide (p < IntKind.i64.wrap (m.pa + m.nn))) = true) : findR l p = (m, true) := by
  unfold findR
  rw [hx, drop_at hm, List.find?_cons, show inM p m = true from h]
theorem find_end {l : List M} {p : Int} (hx : l.find? (inM p) = (l.drop l.length).find? (inM p)) : findR l p = (noM, false) := by
  unfold findR
  rw [hx, List.drop_length]
  rfl
/-- The end: two values in slots. -/
theorem ret_tmp2 {U : Prop} {P : Program} {N : Nat} {e : Env} {F : Cell → Prop} {a : Act} {w : World} {fn : Func} {W : World} {F0 : Cell → Prop} {y1 y2 : Sym} (h : StE U N e F a w) (s t : Nat) (hr : fn.results = #[.tmp s, .tmp t]) (hs : e.lookup s = some (true, y1)) (ht : e.lookup t = some (true, y2)) (hF : ∀ k : Cell, F0 k → F k) (hW : Below W.heap.size W w) :
    bodyPost P fn (fun e w' => ∃ v, e = .returned v ∧ (Sym.two y1 y2).on w' F0 v ∧ Below W.heap.size W w') .ret a w := by
  refine (bodyPost_ret (v := .tuple #[a.tmps.getD s undef, a.tmps.getD t undef]) ?_ h.defers ⟨_, rfl, ⟨_, _, rfl, y1.mono (h.get s hs) (.refl _ _) fun k _ hk => hF k hk, y2.mono (h.get t ht) (.refl _ _) fun k _ hk => hF k hk⟩, hW⟩)
  simp [results, hr]
theorem nil_one {w : World} {F : Cell → Prop} {v : Value} (h : v = .slice none 0 0) : (Sym.one (Lay.sl mapL) ([] : List M)).on w F v := ⟨none, 0, by rw [h]; rfl, fun h => absurd h (by simp), Nat.le_refl _⟩
/-- How many are ahead of a page. -/
def posM (l : List M) (x : Int) : Nat := (l.takeWhile fun m => decide (m.pa < x)).length
def clash (l : List M) (k : Nat) (m : M) : Bool :=
  (decide ((0 : Int) < (k : Int)) && decide (m.pa < IntKind.i64.wrap ((l.getD (k - 1) noM).pa + (l.getD (k - 1) noM).nn))) || (decide ((k : Int) < (l.length : Int)) && decide ((l.getD k noM).pa < IntKind.i64.wrap (m.pa + m.nn)))
def addM (l : List M) (m : M) : List M × Int :=
  if fitsB m = false then ([], 1) else if clash l (posM l m.pa) m = true then ([], 1) else if 16 ≤ l.length then ([], 7) else (l.take (posM l m.pa) ++ m :: l.drop (posM l m.pa), 0)
theorem pos_is : ∀ {l : List M} {x : Int} {i : Nat}, (∀ j, j < i → (l.getD j noM).pa < x) → (i < l.length → ¬ (l.getD i noM).pa < x) → i ≤ l.length → posM l x = i
  | [], x, i, _, _, h3 => by simp at h3; subst h3; rfl
  | m :: t, x, 0, _, h2, _ => by
    have := h2 (by simp)
    simp at this
    simp [posM, this]
  | m :: t, x, i + 1, h1, h2, h3 => by
    have h0 := h1 0 (by omega)
    simp at h0
    have ih := pos_is (l := t) (x := x) (i := i) (fun j hj => by have := h1 (j + 1) (by omega); simpa using this) (fun hi => by have := h2 (by simpa using hi); simpa using this) (by simpa using h3)
    unfold posM at ih ⊢
    rw [List.takeWhile_cons, if_pos (by simpa using h0), List.length_cons, ih]
theorem gd {a b : Bool} (h : (a && (b == true)) = true) : b = true := by
  rw [Bool.and_eq_true] at h
  simpa using h.2
theorem idx_at {l : List M} {i : Nat} (h : decide ((i : Int) < (l.length : Int)) = true) : 0 ≤ (i : Int) ∧ l[((i : Int)).toNat]? = some (l.getD i noM) := by
  have h : i < l.length := by simpa using h
  refine ⟨by omega, ?_⟩
  simp [List.getD_eq_getElem?_getD, h]
theorem prev_at {l : List M} {i : Nat} (hl : l.length ≤ 1000000) (hi : i ≤ l.length) (h : decide ((0 : Int) < (i : Int)) = true) : 0 ≤ IntKind.i64.wrap ((i : Int) - 1) ∧ l[(IntKind.i64.wrap ((i : Int) - 1)).toNat]? = some (l.getD (i - 1) noM) := by
  have h : 0 < i := by simpa using h
  have e : IntKind.i64.wrap ((i : Int) - 1) = ((i - 1 : Nat) : Int) := by rw [IntKind.wrap_i64]; omega
  rw [e]
  refine ⟨by omega, ?_⟩
  simp [List.getD_eq_getElem?_getD, show i - 1 < l.length by omega]
theorem call_step {P : Program} {Q : Exit → Act → World → Prop} {a : Act} {w : World} {ops : Array Oper} {rest : List Oper} {o : Oper} (f : FuncId) (A : List Operand) (hg : o.guard = none) (hr : CallRun P o A f) (hc : Calls P f (A.map a.eval).toArray w (fun e w' => ∃ v, e = .returned v ∧ wpList P ops Q rest (a.put o.dst v) w')) : wpList P ops Q (o :: rest) a w :=
  wpList_plain hg fun K hK => by
    unfold Oper.wp
    rw [hr, Oper.upon_enter]
    exact hc.mono (by rintro _ w' ⟨v, rfl, h⟩; exact hK _ _ h)
theorem f43 {l : List M} {B : Nat} (hl : l.length ≤ 1000000) : Fn False Try.prog 43 [.both (.past B) (.one (Lay.sl mapL) l)] (.own B 69 5 l.length (l.flatMap mapE)) := fn1 fun w F v1 h1 hF => by
  obtain ⟨hB, h1⟩ := h1
  obtain ⟨A, c, rfl, hr, hc⟩ := reads_of_sl mapF h1
  refine (clone_anyM A c l.length _ w.heap.size w hr (Nat.le_refl _) hl (mapF.ones l)).mono ?_
  rintro _ w' ⟨v, rfl, h2, h3⟩
  exact ⟨v, rfl, ⟨own_mono h2 hB, fun g o hg hf => by have := own_base h2 hg; have := hF.lt (g, o) hf; simp only at this; omega⟩, h3⟩
theorem mapE_inj {a b : M} (h : mapE a = mapE b) : a = b := by
  cases a; cases b
  simp [mapE] at h
  simp [h]
theorem insert_calls {l : List M} {m : M} {i B : Nat} {w : World} {F : Cell → Prop} {v1 v3 : Value} (h1 : (Sym.own B 69 5 l.length (l.flatMap mapE)).on w F v1) (h3 : (Sym.lit 69 (mapE m)).on w F v3) (hi : i ≤ l.length) (hn : l.length ≤ 1000000) (hB : B ≤ w.heap.size) (hd : i < l.length → l ≠ [m]) :
    Calls Try.prog 42 #[v1, .int .i64 i, v3] w fun e w' => ∃ v, e = .returned v ∧ w'.ownsRow B 69 5 v (l.take i ++ m :: l.drop i).length ((l.take i ++ m :: l.drop i).flatMap mapE) ∧ w.grownBy w' v1.ownBlock ∧ (v.ownBlock = v1.ownBlock ∨ v.ownBlock = some w.heap.size) := by
  obtain ⟨h1, _⟩ := h1
  obtain ⟨vb, rfl, hv, _⟩ := h3
  obtain ⟨A, c, rfl⟩ := own_slice h1
  have e5 : mapL.n = 5 := rfl
  have hlen : (l.take i ++ m :: l.drop i).length = l.length + 1 := by simp; omega
  have hcells : (l.take i ++ m :: l.drop i).flatMap mapE = (l.flatMap mapE).take (i * 5) ++ mapE m ++ (l.flatMap mapE).drop (i * 5) := by
    rw [← e5, mapF.take, mapF.drop, List.flatMap_append, List.flatMap_cons, List.append_assoc]
  rw [hlen, hcells]
  by_cases he : i = l.length
  · subst he
    have hl : (l.flatMap mapE).length = l.length * 5 := h1.1
    rw [List.take_of_length_le (by omega), List.drop_eq_nil_of_le (by omega), List.append_nil]
    exact insert_endM B vb l.length c (mapE m) rfl (mapF.one m) A _ w h1 hv hn hB
  · refine insert_anyM B vb l.length c i (mapE m) rfl (mapF.one m) A _ w h1 (mapF.ones l) hv (fun hb => ?_) hi hn hB
    obtain ⟨g, cur, rfl, _, hg, h2, _, h4, h5⟩ := own_blk h1 (by omega)
    obtain rfl : vb = g := by simpa [Value.ownBlock] using hb
    have hcur : cur = (mapE m).toArray := by
      unfold Blk at hg hv
      rw [hg] at hv
      injection hv with hv
      injection hv with hv
    subst hcur
    have hc1 : c * 5 = 5 := by rw [← h4]; rfl
    have hl1 : l.length = 1 := by omega
    match l, hl1 with
    | [x], _ =>
      simp only [List.flatMap_cons, List.flatMap_nil, List.append_nil] at h5
      have h6 : mapE m = mapE x := by rw [← h5]; rfl
      exact hd (by omega) (by rw [mapE_inj h6])
theorem add_apart {l : List M} {m : M} {i : Nat} (hf : fitsB m = true) (h : clash l i m = false) (hi : i < l.length) : l ≠ [m] := by
  rintro rfl
  obtain rfl : i = 0 := by simpa using hi
  unfold clash at h
  rw [end_wrap hf] at h
  unfold fitsB at hf
  simp at h hf
  omega

set_option maxRecDepth 100000 in
theorem f26 {l : List M} {p : Int} (hl : l.length ≤ 1000000) : Fn False Try.prog 26 [.one (Lay.sl mapL) l, .int .i64 p] (.two (.st mapL (findR l p).1) (.bool (findR l p).2)) := fn2 fun w F v0 v1 h0 h1 hF => by
  go_enter Try.func26, Try.ntmps26
  refine wp_seq ?_
  refine flowN mixed (st0 (U := False) (N := 30) (e := [(0, true, .one (Lay.sl mapL) l), (1, true, .int .i64 p)]) (F := F) rfl rfl hF ⟨⟨rfl, h0⟩, ⟨⟨rfl, h1⟩, True.intro⟩⟩) (by kernel_rfl) (by kernel_rfl) (ca rfl (m_alloc al_69 (fun h => h.elim))
      (cc rfl (p_assign g0 (oc _)) cn)) (by kernel_rfl) fun a1 w1 gs1 b1 s1 n1 hh1 m1 => ?_
  have z1 := b1
  obtain ⟨g4, rfl, p4, k4⟩ := made1 m1
  have hg4 := hh1 g4 (by simp)
  have s1 := s1.more 4 (y := .val (.pointer (some ⟨g4, 0, none⟩))) p4
  refine wp_seq ?_
  refine wp_seq ?_
  refine flowC mixed (s1.keep (sc 0 rfl (sc 1 rfl (sc 4 rfl (sc 5 rfl sn))))) (by kernel_rfl) (by kernel_rfl) (cc rfl (p_move g0 (od rfl id))
      (cc rfl (p_len ln_41 g0 (od rfl id))
      (cc rfl (p_move g0 (oc _)) cn))) fun a2 w2 b2 s2 => ?_
  have z2 := z1.trans (b2.mono z1.size)
  have k4 := k4.below b2 k4.lt
  refine wp_block ?_
  refine wp_range l.length 10 (fun i => []) (fun i w => l.find? (inM p) = (l.drop i).find? (inM p) ∧ Blk w g4 69 #[.int .i64 0, .int .u64 0, .int .i64 0, .int .i64 0, .bool false]) (s2.keep (sc 10 rfl (sc 1 rfl (sc 4 rfl (sc 5 rfl (sc 8 rfl (sc 9 rfl sn))))))) z2 ⟨rfl, k4⟩ fun i a3 w3 hi1 s3 z3 x3 => ?_
  obtain ⟨xx3, k4⟩ := x3
  refine wp_seq ?_
  refine flowC mixed (s3.keep (sc 1 rfl (sc 4 rfl (sc 5 rfl (sc 8 rfl (sc 9 rfl (sc 10 rfl sn))))))) (by kernel_rfl) (by kernel_rfl) (cc rfl (p_bin g0 (od rfl id) (od rfl id) b_lss_3) cn) fun a4 w4 b4 s4 => ?_
  have z4 := z3.trans (b4.mono z3.size)
  have k4 := k4.below b4 k4.lt
  refine wp_seq ?_
  refine s4.cond 11 rfl (fun h => ?_) (fun h => ?_)
  · -- true
    have hlt1 : i < l.length := by simpa using h
    obtain ⟨m, em⟩ : ∃ x, l[i]? = some x := ⟨_, List.getElem?_eq_getElem hlt1⟩
    refine wp_skip ?_
    refine wp_seq ?_
    refine wp_block ?_
    refine wp_seq ?_
    refine flowQ 3 mixed (s4.keep (sc 1 rfl (sc 4 rfl (sc 5 rfl (sc 8 rfl (sc 9 rfl (sc 10 rfl (sc 11 rfl sn)))))))) (by kernel_rfl) (by kernel_rfl) (cc rfl (p_index ix_41 em g0 (od rfl id) (od rfl id))
        (cc rfl (p_load Try.underlying69 rfl sz_69 g0 (od rfl id))
        (ca rfl (m_alloc al_69 (fun h => h.elim)) cn))) (by kernel_rfl) (ss rfl rfl rfl rfl puts_st sz_69 rfl rfl ss0) fun a5 w5 b5 s5 => ?_
    have z5 := z4.trans (b5.mono z4.size)
    have k4 := k4.below b5 k4.lt
    refine wp_seq ?_
    refine flowC mixed (s5.keep (sc 1 rfl (sc 4 rfl (sc 5 rfl (sc 7 rfl (sc 8 rfl (sc 9 rfl (sc 10 rfl (sc 11 rfl (sc 12 rfl (sc 13 rfl sn))))))))))) (by kernel_rfl) (by kernel_rfl) (cc rfl (p_move g0 (od rfl id))
        (cc rfl (p_fieldAddr pt69_0 fa_69_0 g0 (od rfl id))
        (cc rfl (p_loadI ld_3 g0 (od rfl id))
        (cc rfl (p_bin g0 (od rfl id) (od rfl id) b_geq_3)
        (cc rfl (p_move g0 (od rfl id))
        (cc rfl (p_move (g1 rfl rfl) (od rfl (fun _ => rfl)))
        (cc rfl (p_fieldAddr pt69_0 fa_69_0 (g1 rfl rfl) (od rfl (fun _ => rfl)))
        (cc rfl (p_loadI ld_3 (g1 rfl rfl) (od rfl id))
        (cc rfl (p_fieldAddr pt69_3 fa_69_3 (g1 rfl rfl) (od rfl (fun _ => rfl)))
        (cc rfl (p_loadI ld_3 (g1 rfl rfl) (od rfl id))
        (cc rfl (p_bin (g1 rfl rfl) (od rfl id) (od rfl id) b_add_3)
        (cc rfl (p_bin (g1 rfl rfl) (od rfl id) (od rfl id) b_lss_3)
        (cc rfl (p_and g0 (od rfl id) (od rfl id)) cn))))))))))))) fun a6 w6 b6 s6 => ?_
    have z6 := z5.trans (b6.mono z5.size)
    have k4 := k4.below b6 k4.lt
    refine s6.cond 26 rfl (fun h26 => ?_) (fun h26 => ?_)
    · -- true
      refine wp_seq ?_
      refine flowR 1 mixed (s6.keep (sc 1 rfl (sc 4 rfl (sc 7 rfl (sc 8 rfl (sc 9 rfl (sc 10 rfl (sc 11 rfl (sc 12 rfl (sc 13 rfl (sc 14 rfl (sc 15 rfl (sc 16 rfl (sc 17 rfl (sc 18 rfl (sc 19 rfl (sc 20 rfl (sc 21 rfl (sc 22 rfl (sc 23 rfl (sc 24 rfl (sc 25 rfl (sc 26 rfl sn))))))))))))))))))))))) (by kernel_rfl) (by kernel_rfl) (cc rfl (p_load Try.underlying69 rfl sz_69 g0 (od rfl id)) cn) fun a7 w7 b7 s7 => ?_
      have z7 := z6.trans (b7.mono z6.size)
      have k4 := k4.below b7 k4.lt
      show wpList _ _ _ (_ :: _) _ _
      refine store_own 4 27 s7 rfl rfl rfl sz_69 rfl rfl k4 rfl (fun _ => .inr (by simp)) (fun h => h.elim) fun w8 c8 y8 q8 k4 l8 s8 => ?_
      have z8 := q8 _ _ z7 hg4
      refine chainT (t := []) (cc rfl (p_assign g0 (oc _)) cn) (by kernel_rfl) s8 fun a9 w9 b9 s9 => wpList_done ?_
      have z9 := z8.trans (b9.mono z8.size)
      have k4 := k4.below b9 k4.lt
      rw [show findR l p = (m, true) from find_hit xx3 em h26]
      exact wp_ret (ret_cell2 (fn := Try.f26) s9 4 5 rfl rfl rfl Try.underlying69 rfl sz_69 k4 (Lay.mono _ l8 (.of b9) fun _ _ h => h) (fun _ h => Or.inl h) z9)
    · -- false
      refine wp_skip ?_
      refine flowT (s6.keep (sc 1 rfl (sc 4 rfl (sc 5 rfl (sc 7 rfl (sc 8 rfl (sc 9 rfl (sc 10 rfl (sc 11 rfl (sc 12 rfl (sc 13 rfl (sc 14 rfl (sc 15 rfl (sc 16 rfl (sc 17 rfl (sc 18 rfl (sc 19 rfl (sc 20 rfl (sc 21 rfl (sc 22 rfl (sc 23 rfl (sc 24 rfl (sc 25 rfl (sc 26 rfl sn)))))))))))))))))))))))) (by kernel_rfl) (cc rfl (p_bin g0 (od rfl id) (oc _) (inc_3 (by omega)))
          (cc rfl (p_move g0 (od rfl id)) cn)) fun a10 w10 b10 s10 => ?_
      have z10 := z6.trans (b10.mono z6.size)
      have k4 := k4.below b10 k4.lt
      exact ⟨hlt1, s10.to _ ⟨rfl, rfl, rfl, rfl, rfl, rfl, True.intro⟩, z10, find_go xx3 em h26, k4⟩
  · -- false
    obtain rfl : i = l.length := by have := of_decide_eq_false h; (try dsimp only at this); omega
    refine wp_exit ?_
    refine wp_seq ?_
    refine flowR 1 mixed (s4.keep (sc 1 rfl (sc 4 rfl (sc 8 rfl (sc 9 rfl (sc 10 rfl sn)))))) (by kernel_rfl) (by kernel_rfl) (cc rfl (p_done bz_69 (y := .st mapL noM) (fun _ _ => on_M noM) g0) cn) fun a11 w11 b11 s11 => ?_
    have z11 := z4.trans (b11.mono z4.size)
    have k4 := k4.below b11 k4.lt
    show wpList _ _ _ (_ :: _) _ _
    refine store_own 4 29 s11 rfl rfl rfl sz_69 rfl rfl k4 rfl (fun _ => .inr (by simp)) (fun h => h.elim) fun w12 c12 y12 q12 k4 l12 s12 => ?_
    have z12 := q12 _ _ z11 hg4
    refine chainT (t := []) (cc rfl (p_assign g0 (oc _)) cn) (by kernel_rfl) s12 fun a13 w13 b13 s13 => wpList_done ?_
    have z13 := z12.trans (b13.mono z12.size)
    have k4 := k4.below b13 k4.lt
    rw [show findR l p = (noM, false) from find_end xx3]
    exact wp_ret (ret_cell2 (fn := Try.f26) s13 4 5 rfl rfl rfl Try.underlying69 rfl sz_69 k4 (Lay.mono _ l12 (.of b13) fun _ _ h => h) (fun _ h => Or.inl h) z13)

theorem add_stop {l : List M} {i : Nat} {x : Int} (h : (decide ((i : Int) < (l.length : Int)) && decide ((l.getD i noM).pa < x)) = false) (hi : i < l.length) : ¬ (l.getD i noM).pa < x := fun h2 => by
  rw [decide_eq_true (show (i : Int) < (l.length : Int) by omega), decide_eq_true h2] at h
  cases h
theorem add_lt {l : List M} {i : Nat} {b : Bool} (h : (decide ((i : Int) < (l.length : Int)) && b) = true) : i < l.length := by
  rw [Bool.and_eq_true] at h
  simpa using h.1
theorem add_go {l : List M} {i : Nat} {b : Bool} {x : Int} (hx : ∀ j, j < i → (l.getD j noM).pa < x) (h : (b && decide ((l.getD i noM).pa < x)) = true) (j : Nat) (hj : j < i + 1) : (l.getD j noM).pa < x := by
  rw [Bool.and_eq_true, decide_eq_true_eq] at h
  rcases Nat.lt_or_ge j i with h1 | h1
  · exact hx j h1
  · obtain rfl : j = i := by omega
    exact h.2

theorem addM_ok {l : List M} {m : M} {i : Nat} (h9 : (!fitsB m) = false) (hpos : posM l m.pa = i) (h64 : clash l i m = false) (h67 : decide ((16 : Int) ≤ (l.length : Int)) = false) : addM l m = (l.take i ++ m :: l.drop i, 0) := by
  unfold addM
  rw [if_neg (by simpa using h9), hpos, if_neg (by rw [h64]; simp), if_neg (by have := of_decide_eq_false h67; omega)]
theorem insert_below {W w w' : World} {F : Cell → Prop} {v : Value} {n : Nat} {xs : List Value} (hz : Below W.heap.size W w) (h : (Sym.own W.heap.size 69 5 n xs).on w F v) (hg : w.grownBy w' v.ownBlock) : Below W.heap.size W w' :=
  hz.grown hg hz.size fun _ e => own_base h.1 e
theorem insert_st {N : Nat} {e : Env} {F F' : Cell → Prop} {a : Act} {w w' W : World} (h : StE False N e F a w) (hF : FOK False F' w') (_ : Below W.heap.size W w') (d : Nat) (v : Value) : StE False N [] F' (a.put (some d) v) w' :=
  stE_nil (by simp [Act.put, h.size]) h.defers hF
theorem insert_on {l : List M} {w w' : World} {F : Cell → Prop} {v : Value} {a : Act} {d : Nat} (h : w'.ownsRow w.heap.size 69 5 v l.length (l.flatMap mapE)) (hF : FOK False F w) (hd : d < a.tmps.size) : (Sym.one (Lay.sl mapL) l).on w' F ((a.put (some d) v).tmps.getD d undef) := by
  have e : (a.put (some d) v).tmps.getD d undef = v := by simp [Act.put, hd]
  rw [e]
  exact sl_of_own mapF h fun g o hg _ hf => by have := own_base h hg; have := hF.lt (g, o) hf; simp only at this; omega

set_option maxRecDepth 100000 in
theorem f24 {l : List M} {m : M} (hl : l.length ≤ 1000000) : Fn False Try.prog 24 [.one (Lay.sl mapL) l, .st mapL m] (.two (.one (Lay.sl mapL) (addM l m).1) (.int .i64 (addM l m).2)) := fn2 fun w F v0 v1 h0 h1 hF => by
  go_enter Try.func24, Try.ntmps24
  refine wp_seq ?_
  refine flowC mixed (st0 (U := False) (N := 74) (e := [(0, true, .one (Lay.sl mapL) l), (1, true, .st mapL m)]) (F := F) rfl rfl hF ⟨⟨rfl, h0⟩, ⟨⟨rfl, h1⟩, True.intro⟩⟩) (by kernel_rfl) (by kernel_rfl) (cc rfl (p_box bx_69 g0 (od rfl id))
      (cc rfl (p_assign g0 (oc _))
      (cc rfl (p_assign g0 (oc _)) cn))) fun a1 w1 b1 s1 => ?_
  have z1 := b1
  refine wp_seq ?_
  refine wp_seq ?_
  refine flowC mixed (s1.keep (sc 0 rfl (sc 3 rfl (sc 4 rfl (sc 5 rfl sn))))) (by kernel_rfl) (by kernel_rfl) (cc rfl (p_load Try.underlying69 rfl sz_69 g0 (od rfl id))
      (cc rfl (p_call 41 g0 (ox (od rfl id) ox0) (fun _ _ => by kernel_rfl) f41)
      (cc rfl (p_not g0 (od rfl id)) cn))) fun a2 w2 b2 s2 => ?_
  have z2 := z1.trans (b2.mono z1.size)
  refine s2.cond 9 rfl (fun h9 => ?_) (fun h9 => ?_)
  · -- true
    refine wp_seq ?_
    refine flowT (s2.keep (sc 0 rfl (sc 3 rfl (sc 4 rfl (sc 5 rfl sn))))) (by kernel_rfl) (cc rfl (p_assign g0 (oc _))
        (cc rfl (p_assign g0 (oc _)) cn)) fun a3 w3 b3 s3 => ?_
    have z3 := z2.trans (b3.mono z2.size)
    rw [show addM l m = ([], 1) from by unfold addM; rw [if_pos (by simpa using h9)]]
    have s3 := s3.more 4 (y := .one (Lay.sl mapL) ([] : List M)) (nil_one (s3.get 4 rfl))
    exact wp_ret (ret_tmp2 (fn := Try.f24) s3 4 5 rfl rfl rfl (fun _ h => h) z3)
  · -- false
    refine wp_skip ?_
    refine wp_seq ?_
    refine flowC mixed (s2.keep (sc 0 rfl (sc 3 rfl (sc 4 rfl (sc 5 rfl sn))))) (by kernel_rfl) (by kernel_rfl) (cc rfl (p_assign g0 (oc _)) cn) fun a4 w4 b4 s4 => ?_
    have z4 := z2.trans (b4.mono z2.size)
    refine wp_seq ?_
    refine wp_block ?_
    refine wp_range l.length 6 (fun i => []) (fun i w => ∀ j, j < i → (l.getD j noM).pa < m.pa) (s4.keep (sc 6 rfl (sc 0 rfl (sc 3 rfl (sc 4 rfl (sc 5 rfl sn)))))) z4 ((fun j hj => absurd hj (Nat.not_lt_zero j))) fun i a5 w5 hi1 s5 z5 x5 => ?_
    refine wp_seq ?_
    refine wp_seq ?_
    refine flowC mixed (s5.keep (sc 0 rfl (sc 3 rfl (sc 4 rfl (sc 5 rfl (sc 6 rfl sn)))))) (by kernel_rfl) (by kernel_rfl) (cc rfl (p_move g0 (od rfl id))
        (cc rfl (p_move g0 (od rfl id))
        (cc rfl (p_len ln_41 g0 (od rfl id))
        (cc rfl (p_bin g0 (od rfl id) (od rfl id) b_lss_3)
        (cc rfl (p_move g0 (od rfl id))
        (cc rfl (p_move (g1 rfl rfl) (od rfl (fun _ => rfl)))
        (cc rfl (p_move (g1 rfl rfl) (od rfl (fun _ => rfl)))
        (cc rfl (p_indexI (z := l.getD i noM) ix_41 (fun hc => idx_at (gd hc)) (g1 rfl rfl) (od rfl id) (od rfl id))
        (cc rfl (p_fieldAddr pt69_0 fa_69_0 (g1 rfl rfl) (od rfl id))
        (cc rfl (p_loadI ld_3 (g1 rfl rfl) (od rfl id))
        (cc rfl (p_fieldAddr pt69_0 fa_69_0 (g1 rfl rfl) (od rfl (fun _ => rfl)))
        (cc rfl (p_loadI ld_3 (g1 rfl rfl) (od rfl id))
        (cc rfl (p_bin (g1 rfl rfl) (od rfl id) (od rfl id) b_lss_3)
        (cc rfl (p_and g0 (od rfl id) (od rfl id)) cn)))))))))))))) fun a6 w6 b6 s6 => ?_
    have z6 := z5.trans (b6.mono z5.size)
    refine s6.cond 23 rfl (fun h => ?_) (fun h => ?_)
    · -- true
      have hlt1 : i < l.length := add_lt h
      refine wp_skip ?_
      refine wp_block ?_
      refine flowT (s6.keep (sc 0 rfl (sc 3 rfl (sc 4 rfl (sc 5 rfl (sc 6 rfl (sc 10 rfl (sc 11 rfl (sc 12 rfl (sc 13 rfl (sc 14 rfl (sc 15 rfl (sc 16 rfl (sc 17 rfl (sc 18 rfl (sc 19 rfl (sc 20 rfl (sc 21 rfl (sc 22 rfl (sc 23 rfl sn)))))))))))))))))))) (by kernel_rfl) (cc rfl (p_move g0 (od rfl id))
          (cc rfl (p_bin g0 (od rfl id) (oc _) (inc_3 (by omega)))
          (cc rfl (p_assign g0 (od rfl id)) cn))) fun a7 w7 b7 s7 => ?_
      have z7 := z6.trans (b7.mono z6.size)
      exact ⟨hlt1, s7.to _ ⟨rfl, rfl, rfl, rfl, rfl, True.intro⟩, z7, fun j hj => add_go x5 h j hj⟩
    · -- false
      have hpos : posM l m.pa = i := pos_is x5 (add_stop h) hi1
      refine wp_exit ?_
      refine wp_seq ?_
      refine wp_seq ?_
      refine flowC mixed (s6.keep (sc 0 rfl (sc 3 rfl (sc 4 rfl (sc 5 rfl (sc 6 rfl sn)))))) (by kernel_rfl) (by kernel_rfl) (cc rfl (p_move g0 (od rfl id))
          (cc rfl (p_bin g0 (od rfl id) (oc _) b_gtr_3)
          (cc rfl (p_move g0 (od rfl id))
          (cc rfl (p_move (g1 rfl rfl) (od rfl (fun _ => rfl)))
          (cc rfl (p_move (g1 rfl rfl) (od rfl (fun _ => rfl)))
          (cc rfl (p_bin (g1 rfl rfl) (od rfl id) (oc _) b_sub_3)
          (cc rfl (p_indexI (z := l.getD (i - 1) noM) ix_41 (fun hc => prev_at hl hi1 (gd hc)) (g1 rfl rfl) (od rfl id) (od rfl id))
          (cc rfl (p_fieldAddr pt69_0 fa_69_0 (g1 rfl rfl) (od rfl id))
          (cc rfl (p_loadI ld_3 (g1 rfl rfl) (od rfl id))
          (cc rfl (p_move (g1 rfl rfl) (od rfl (fun _ => rfl)))
          (cc rfl (p_move (g1 rfl rfl) (od rfl (fun _ => rfl)))
          (cc rfl (p_bin (g1 rfl rfl) (od rfl id) (oc _) b_sub_3)
          (cc rfl (p_indexI (z := l.getD (i - 1) noM) ix_41 (fun hc => prev_at hl hi1 (gd hc)) (g1 rfl rfl) (od rfl id) (od rfl id))
          (cc rfl (p_fieldAddr pt69_3 fa_69_3 (g1 rfl rfl) (od rfl id))
          (cc rfl (p_loadI ld_3 (g1 rfl rfl) (od rfl id))
          (cc rfl (p_bin (g1 rfl rfl) (od rfl id) (od rfl id) b_add_3)
          (cc rfl (p_fieldAddr pt69_0 fa_69_0 (g1 rfl rfl) (od rfl (fun _ => rfl)))
          (cc rfl (p_loadI ld_3 (g1 rfl rfl) (od rfl id))
          (cc rfl (p_bin (g1 rfl rfl) (od rfl id) (od rfl id) b_gtr_3)
          (cc rfl (p_and g0 (od rfl id) (od rfl id))
          (cc rfl (p_move g0 (od rfl id))
          (cc rfl (p_move (g1 rfl rfl) (od rfl (fun _ => rfl)))
          (cc rfl (p_move (g1 rfl rfl) (od rfl (fun _ => rfl)))
          (cc rfl (p_len ln_41 (g1 rfl rfl) (od rfl id))
          (cc rfl (p_bin (g1 rfl rfl) (od rfl id) (od rfl id) b_lss_3)
          (cc rfl (p_move (g1 rfl rfl) (od rfl id))
          (cc rfl (p_fieldAddr pt69_0 fa_69_0 (g1 rfl rfl) (od rfl (fun _ => rfl)))
          (cc rfl (p_loadI ld_3 (g1 rfl rfl) (od rfl id))
          (cc rfl (p_fieldAddr pt69_3 fa_69_3 (g1 rfl rfl) (od rfl (fun _ => rfl)))
          (cc rfl (p_loadI ld_3 (g1 rfl rfl) (od rfl id))
          (cc rfl (p_bin (g1 rfl rfl) (od rfl id) (od rfl id) b_add_3)
          (cc rfl (p_move (g1 rfl rfl) (od rfl (fun _ => rfl)))
          (cc rfl (p_move (g1 rfl rfl) (od rfl (fun _ => rfl)))
          (cc rfl (p_indexI (z := l.getD i noM) ix_41 (fun hc => idx_at (gd hc)) (g1 rfl rfl) (od rfl id) (od rfl id))
          (cc rfl (p_fieldAddr pt69_0 fa_69_0 (g1 rfl rfl) (od rfl id))
          (cc rfl (p_loadI ld_3 (g1 rfl rfl) (od rfl id))
          (cc rfl (p_bin (g1 rfl rfl) (od rfl id) (od rfl id) b_gtr_3)
          (cc rfl (p_and (g1 rfl rfl) (od rfl id) (od rfl id))
          (cc rfl (p_or g0 (od rfl id) (od rfl id)) cn))))))))))))))))))))))))))))))))))))))) fun a8 w8 b8 s8 => ?_
      have z8 := z6.trans (b8.mono z6.size)
      refine s8.cond 64 rfl (fun h64 => ?_) (fun h64 => ?_)
      · -- true
        refine wp_seq ?_
        refine flowT (s8.keep (sc 0 rfl (sc 3 rfl (sc 4 rfl (sc 5 rfl (sc 6 rfl sn)))))) (by kernel_rfl) (cc rfl (p_assign g0 (oc _))
            (cc rfl (p_assign g0 (oc _)) cn)) fun a9 w9 b9 s9 => ?_
        have z9 := z8.trans (b9.mono z8.size)
        rw [show addM l m = ([], 1) from by unfold addM; rw [if_neg (by simpa using h9), hpos, if_pos (show clash l i m = true from h64)]]
        have s9 := s9.more 4 (y := .one (Lay.sl mapL) ([] : List M)) (nil_one (s9.get 4 rfl))
        exact wp_ret (ret_tmp2 (fn := Try.f24) s9 4 5 rfl rfl rfl (fun _ h => h) z9)
      · -- false
        refine wp_skip ?_
        refine wp_seq ?_
        refine wp_seq ?_
        refine flowC mixed (s8.keep (sc 0 rfl (sc 3 rfl (sc 4 rfl (sc 5 rfl (sc 6 rfl sn)))))) (by kernel_rfl) (by kernel_rfl) (cc rfl (p_move g0 (od rfl id))
            (cc rfl (p_len ln_41 g0 (od rfl id))
            (cc rfl (p_bin g0 (od rfl id) (oc _) b_geq_3) cn))) fun a10 w10 b10 s10 => ?_
        have z10 := z8.trans (b10.mono z8.size)
        refine s10.cond 67 rfl (fun h67 => ?_) (fun h67 => ?_)
        · -- true
          refine wp_seq ?_
          refine flowT (s10.keep (sc 0 rfl (sc 3 rfl (sc 4 rfl (sc 5 rfl (sc 6 rfl sn)))))) (by kernel_rfl) (cc rfl (p_assign g0 (oc _))
              (cc rfl (p_assign g0 (oc _)) cn)) fun a11 w11 b11 s11 => ?_
          have z11 := z10.trans (b11.mono z10.size)
          rw [show addM l m = ([], 7) from by unfold addM; rw [if_neg (by simpa using h9), hpos, if_neg (by rw [show clash l i m = false from h64]; simp), if_pos (by have := of_decide_eq_true h67; omega)]]
          have s11 := s11.more 4 (y := .one (Lay.sl mapL) ([] : List M)) (nil_one (s11.get 4 rfl))
          exact wp_ret (ret_tmp2 (fn := Try.f24) s11 4 5 rfl rfl rfl (fun _ h => h) z11)
        · -- false
          refine wp_skip ?_
          refine wp_seq ?_
          have s10 := s10.more 0 (y := .both (.past w.heap.size) (.one (Lay.sl mapL) l)) ⟨z10.size, s10.get 0 rfl⟩
          refine flowR 5 mixed (s10.keep (sc 0 rfl (sc 3 rfl (sc 6 rfl sn)))) (by kernel_rfl) (by kernel_rfl) (cc rfl (p_move g0 (od rfl id))
              (cc rfl (p_call 43 g0 (ox (od rfl id) ox0) (fun _ _ => by kernel_rfl) (f43 hl))
              (cc rfl (p_move g0 (od rfl id))
              (cc rfl (p_load Try.underlying69 rfl sz_69 g0 (od rfl id))
              (cc rfl (p_lit mapF bs_41 g0 (od rfl id)) cn))))) fun a12 w12 b12 s12 => ?_
          have z12 := z10.trans (b12.mono z10.size)
          show wpList _ _ _ (_ :: _) _ _
          have ec := addM_ok (l := l) (m := m) h9 hpos h64 h67
          refine call_step 42 [.tmp 69, .tmp 70, .tmp 72] rfl (fun _ _ => by kernel_rfl) ?_
          have e70 : a12.tmps.getD 70 undef = .int .i64 (i : Int) := s12.get 70 rfl
          have e69 := s12.get 69 rfl
          have e72 := s12.get 72 rfl
          have HC := insert_calls (i := i) e69 e72.1 hi1 hl z12.size (fun hi => add_apart (by simpa using h9) h64 hi)
          rw [← e70] at HC
          refine HC.mono ?_
          rintro _ w' ⟨v, rfl, o1, g1, q1⟩
          have zz := insert_below z12 e69 g1
          have st := insert_st (F' := F) s12 (hF.below zz) zz 73 v
          have st := st.more 73 (y := .one (Lay.sl mapL) (l.take i ++ m :: l.drop i)) (insert_on o1 hF (by simp [s12.size]))
          refine ⟨v, rfl, ?_⟩
          refine chainT (t := []) (cc rfl (p_assign g0 (od rfl id))
              (cc rfl (p_assign g0 (oc _)) cn)) (by kernel_rfl) st fun a13 w13 b13 s13 => wpList_done ?_
          have z13 := zz.trans (b13.mono zz.size)
          rw [ec]
          exact wp_ret (ret_tmp2 (fn := Try.f24) s13 4 5 rfl rfl rfl (fun _ h => h) z13)

end Go.Proofs.Ytbeeiecbbmiojaa.Y
