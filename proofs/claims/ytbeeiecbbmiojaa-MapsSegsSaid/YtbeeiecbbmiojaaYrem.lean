/- Yrem: maps.Remove; whether two maps are the same -/
import Derived.Test.YtbeeiecbbmiojaaYfit
namespace Go.Proofs.Ytbeeiecbbmiojaa.Y
open Go.RowKit Go.ChangeShapes Go.WideShapes Go.ChangeAt

theorem p_eqM {P : Program} {U : Prop} {ops : Array Oper} {Q : Exit → Act → World → Prop} {N d : Nat} {e : Env} {t : TypeId} {p : String} {af : Array Edge} {g : Option (Nat × Bool)} {c : Bool} {x x2 : Operand} {u u' : TypeId} {o : BinOp} {a b : M} {r : Bool} (hg : GdE ops e g c) (hx : OpdE e c x (.st mapL a)) (hx2 : OpdE e c x2 (.st mapL b)) (hr : Run2 P ⟨some d, .binOp o u x x2 u', t, p, af, g⟩ x x2 (.agg (mapE a).toArray) (.agg (mapE b).toArray) (.bool r)) : Pays U P ops Q N e ⟨some d, .binOp o u x x2 u', t, p, af, g⟩ (c, .bool r) :=
  pVal hg fun e a' w F hk => by
    obtain ⟨c1, e1, h1⟩ := hx a' w F (fun s hs => hk s (by simp [Op.operands, hs])) e
    obtain ⟨c2, e2, h2⟩ := hx2 a' w F (fun s hs => hk s (by simp [Op.operands, hs])) e
    rw [(mapF _ _ _ _).1 h1] at e1
    rw [(mapF _ _ _ _).1 h2] at e2
    exact ⟨_, hr _ w e1 e2, rfl⟩
theorem M_eq {a b : M} : a = b ↔ a.pa = b.pa ∧ a.sg = b.sg ∧ a.fr = b.fr ∧ a.nn = b.nn ∧ a.wr = b.wr := by
  cases a; cases b; simp
section
variable {d : Nat} {t : TypeId} {p : String} {af : Array Edge} {g : Option (Nat × Bool)} {x x2 : Operand}
theorem bm_eql {a b : M} : Run2 Try.prog ⟨some d, .binOp .eql 69 x x2 69, t, p, af, g⟩ x x2 (.agg (mapE a).toArray) (.agg (mapE b).toArray) (.bool (decide (a = b))) := fun ev w h1 h2 => by
  simp only [M_eq]
  obtain ⟨a0, a1, a2, a3, a4⟩ := a
  obtain ⟨b0, b1, b2, b3, b4⟩ := b
  simp only [mapE] at h1 h2 ⊢
  go_simp
  by_cases h3 : a0 = b0 <;> by_cases h4 : a1 = b1 <;> by_cases h5 : a2 = b2 <;> by_cases h6 : a3 = b3 <;> by_cases h7 : a4 = b4 <;> simp [h3, h4, h5, h6, h7]
theorem bm_neq {a b : M} : Run2 Try.prog ⟨some d, .binOp .neq 69 x x2 69, t, p, af, g⟩ x x2 (.agg (mapE a).toArray) (.agg (mapE b).toArray) (.bool (!decide (a = b))) := fun ev w h1 h2 => by
  simp only [M_eq]
  obtain ⟨a0, a1, a2, a3, a4⟩ := a
  obtain ⟨b0, b1, b2, b3, b4⟩ := b
  simp only [mapE] at h1 h2 ⊢
  go_simp
  by_cases h3 : a0 = b0 <;> by_cases h4 : a1 = b1 <;> by_cases h5 : a2 = b2 <;> by_cases h6 : a3 = b3 <;> by_cases h7 : a4 = b4 <;> simp [h3, h4, h5, h6, h7]
def BoxRun1 (P : Program) (o : Oper) (x : Operand) (u : TypeId) (k : IntKind) : Prop := ∀ (ev : Operand → Value) (w : World) (n : Int), ev x = .int k n → (execOp ev o).run P w = .ok (.value (.pointer (some ⟨w.heap.size, 0, none⟩))) (w.alloc (.cells #[.int k n] u))
theorem bx_3 : BoxRun1 Try.prog ⟨some d, .box 3 x, t, p, af, g⟩ x 3 .i64 := fun ev w n h1 => by go_simp
theorem mk_45 : ∀ (ev : Operand → Value) (w : World) (u : Value), ev x = u → (execOp ev ⟨some d, .makeFunc (.func 45) #[] #[x], t, p, af, g⟩).run Try.prog w = .ok (.value (.func (.func 45) #[] #[u])) w := fun ev w u h1 => by go_simp
theorem cv_45 {T : Array TypeId} : ∀ (ev : Operand → Value) (w : World) (u : Value), ev x = .func (.func 45) #[] #[u] → (execOp ev ⟨some d, .call { callee := .value x, args := #[x2], argTypes := T }, t, p, af, g⟩).run Try.prog w = .ok (.enter 45 #[ev x2, u]) w := fun ev w u h1 => by go_simp
end
theorem p_box1 {P : Program} {U : Prop} {ops : Array Oper} {Q : Exit → Act → World → Prop} {N d : Nat} {e : Env} {t : TypeId} {p : String} {af : Array Edge} {g : Option (Nat × Bool)} {c : Bool} {x : Operand} {u : TypeId} {k : IntKind} {n : Int} (hr : BoxRun1 P ⟨some d, .box u x, t, p, af, g⟩ x u k) (hg : GdE ops e g c) (hx : OpdE e c x (.int k n)) : Pays U P ops Q N e ⟨some d, .box u x, t, p, af, g⟩ (c, .at (Lay.int k) n) :=
  pOf hg fun e a w F hF hk R hR => by
    have h1 := hx a w F (fun s hs => hk s (by simp [Op.operands, hs])) e
    have hb : Below w.heap.size w (w.alloc (.cells #[.int k n] u)) := (Below.refl _ _).alloc (Nat.le_refl _) _
    have hB := Blk.new w u #[.int k n]
    unfold Oper.wp
    rw [hr _ w n h1]
    refine hR _ _ hb ⟨w.heap.size, 0, [.int k n], rfl, hB.lt, rfl, fun j hj => ⟨fun h => Nat.lt_irrefl _ (hF.lt _ h), ?_⟩⟩
    obtain rfl : j = 0 := by simpa using hj
    rw [hB.cell]; simp
/-- The test whether a map begins at a page. -/
def Sym.clo (n : Int) : Sym := ⟨fun w F v => ∃ u, v = .func (.func 45) #[] #[u] ∧ (Sym.at (Lay.int .i64) n).on w F u, by rintro _ _ _ _ _ ⟨u, e, h⟩ hk hF; exact ⟨u, e, (Sym.at (Lay.int .i64) n).mono h hk hF⟩⟩
theorem p_clo {U : Prop} {ops : Array Oper} {Q : Exit → Act → World → Prop} {N d : Nat} {e : Env} {t : TypeId} {p : String} {af : Array Edge} {g : Option (Nat × Bool)} {c : Bool} {x : Operand} {n : Int} (hg : GdE ops e g c) (hx : OpdE e c x (.at (Lay.int .i64) n)) : Pays U Try.prog ops Q N e ⟨some d, .makeFunc (.func 45) #[] #[x], t, p, af, g⟩ (c, .clo n) :=
  pVal hg fun e a w F hk => ⟨_, mk_45 _ w _ rfl, _, rfl, hx a w F (fun s hs => hk s (by simp [Op.operands, hs])) e⟩
theorem p_callv {U : Prop} {ops : Array Oper} {Q : Exit → Act → World → Prop} {N d : Nat} {e : Env} {t : TypeId} {p : String} {af : Array Edge} {g : Option (Nat × Bool)} {c : Bool} {x x2 : Operand} {T : Array TypeId} {n : Int} {m : M} {y : Sym} (hc : Fn U Try.prog 45 [.st mapL m, .at (Lay.int .i64) n] y) (hg : GdE ops e g c) (hx : OpdE e c x (.clo n)) (hx2 : OpdE e c x2 (.st mapL m)) : Pays U Try.prog ops Q N e ⟨some d, .call { callee := .value x, args := #[x2], argTypes := T }, t, p, af, g⟩ (c, y) :=
  pOf hg fun e a w F hF hk R hR => by
    obtain ⟨u, e1, h1⟩ := hx a w F (fun s hs => hk s (by simp [Op.operands, Call.operands, hs])) e
    have h2 := hx2 a w F (fun s hs => hk s (by simp [Op.operands, Call.operands, hs])) e
    unfold Oper.wp
    rw [cv_45 _ w u e1, Oper.upon_enter]
    refine (hc w F [a.eval x2, u] rfl (fun i v y h3 h4 => ?_) hF).mono ?_
    · match i, h3, h4 with
      | 0, h3, h4 => simp at h3 h4; subst h3 h4; exact h2
      | 1, h3, h4 => simp at h3 h4; subst h3 h4; exact h1
    · rintro _ w' ⟨v, rfl, h3, h4⟩
      exact hR v w' h4 h3
/-- Where a map that begins at a page is. -/
def idxR (l : List M) (n : Int) : Nat := (l.takeWhile fun m => !(m.pa == n)).length
def idxI (l : List M) (n : Int) : Int := if idxR l n < l.length then (idxR l n : Int) else -1
def remM (l : List M) (n : Int) : List M × Int := if idxR l n < l.length then (l.take (idxR l n) ++ l.drop (idxR l n + 1), 0) else ([], 2)
theorem idx_is : ∀ {l : List M} {n : Int} {i : Nat}, (∀ j, j < i → ((l.getD j noM).pa == n) = false) → (i < l.length → ((l.getD i noM).pa == n) = true) → i ≤ l.length → idxR l n = i
  | [], _, i, _, _, h3 => by simp at h3; subst h3; rfl
  | m :: t, n, 0, _, h2, _ => by
    have := h2 (by simp)
    simp at this
    simp [idxR, this]
  | m :: t, n, i + 1, h1, h2, h3 => by
    have h0 := h1 0 (by omega)
    simp at h0
    have ih := idx_is (l := t) (n := n) (i := i) (fun j hj => by have := h1 (j + 1) (by omega); simpa using this) (fun hi => by have := h2 (by simpa using hi); simpa using this) (by simpa using h3)
    unfold idxR at ih ⊢
    rw [List.takeWhile_cons, if_pos (by simpa using h0), List.length_cons, ih]
theorem idx_go {l : List M} {n : Int} {i : Nat} {m : M} (hx : ∀ j, j < i → ((l.getD j noM).pa == n) = false) (hm : l[i]? = some m) (h : (m.pa == n) = false) (j : Nat) (hj : j < i + 1) : ((l.getD j noM).pa == n) = false := by
  rcases Nat.lt_or_ge j i with h1 | h1
  · exact hx j h1
  · obtain rfl : j = i := by omega
    rw [show l.getD j noM = m by simp [List.getD_eq_getElem?_getD, hm]]
    exact h
theorem idx_hit {l : List M} {n : Int} {i : Nat} {m : M} (hx : ∀ j, j < i → ((l.getD j noM).pa == n) = false) (hm : l[i]? = some m) (h : (m.pa == n) = true) : (i : Int) = idxI l n := by
  have hi := (List.getElem?_eq_some_iff.1 hm).1
  have e := idx_is (l := l) (n := n) (i := i) hx (fun _ => by rw [show l.getD i noM = m by simp [List.getD_eq_getElem?_getD, hm]]; exact h) (by omega)
  unfold idxI
  rw [e, if_pos hi]
theorem idx_miss {l : List M} {n : Int} (hx : ∀ j, j < l.length → ((l.getD j noM).pa == n) = false) : (-1 : Int) = idxI l n := by
  have e := idx_is (l := l) (n := n) (i := l.length) hx (fun h => absurd h (Nat.lt_irrefl _)) (Nat.le_refl _)
  unfold idxI
  rw [e, if_neg (Nat.lt_irrefl _)]
theorem rem_none {l : List M} {n : Int} (h : decide (idxI l n < 0) = true) : remM l n = ([], 2) := by
  rw [decide_eq_true_eq] at h
  unfold idxI at h
  unfold remM
  split at h
  · omega
  · rename_i hh; rw [if_neg hh]
theorem rem_some {l : List M} {n : Int} (h : decide (idxI l n < 0) = false) : idxR l n < l.length ∧ idxI l n = (idxR l n : Int) := by
  rw [decide_eq_false_iff_not] at h
  unfold idxI at h ⊢
  split at h
  · rename_i hh; exact ⟨hh, if_pos hh⟩
  · omega
theorem delete_calls {l : List M} {i B : Nat} {w : World} {F : Cell → Prop} {v1 : Value} (h1 : (Sym.own B 69 5 l.length (l.flatMap mapE)).on w F v1) (hi : i < l.length) :
    Calls Try.prog 46 #[v1, .int .i64 i, .int .i64 ((i : Int) + 1)] w fun e w' => ∃ v, e = .returned v ∧ w'.ownsRow B 69 5 v (l.take i ++ l.drop (i + 1)).length ((l.take i ++ l.drop (i + 1)).flatMap mapE) ∧ w.grownBy w' v1.ownBlock := by
  obtain ⟨h1, _⟩ := h1
  obtain ⟨A, c, rfl⟩ := own_slice h1
  obtain ⟨g, cur, rfl, hB, hg, h2, h3, h4, h5⟩ := own_blk h1 (by omega)
  have hlen : (l.take i ++ l.drop (i + 1)).length = l.length - 1 := by simp; omega
  have hcells : (l.take i ++ l.drop (i + 1)).flatMap mapE = (l.flatMap mapE).take (i * 5) ++ (l.flatMap mapE).drop ((i + 1) * 5) := by
    rw [show (5 : Nat) = mapL.n from rfl, mapF.take, mapF.drop, List.flatMap_append]
  rw [hlen, hcells]
  refine (delete_anyM B g c i l.length cur.toList w (by simpa using hg) hB (by simpa using h4) h3 hi h2 (by rw [h5]; exact mapF.ones l)).mono ?_
  rintro _ w' ⟨rfl, o1, g1⟩
  rw [h5] at o1
  exact ⟨_, rfl, o1, g1⟩

set_option maxRecDepth 100000 in
theorem f45 {m : M} {n : Int} : Fn False Try.prog 45 [.st mapL m, .at (Lay.int .i64) n] (.bool (m.pa == n)) := fn2 fun w F v0 v1 h0 h1 hF => by
  go_enter Try.func45, Try.ntmps45
  refine wp_seq ?_
  refine flowC mixed (st0 (U := False) (N := 8) (e := [(0, true, .st mapL m), (1, true, .at (Lay.int .i64) n)]) (F := F) rfl rfl hF ⟨⟨rfl, h0⟩, ⟨⟨rfl, h1⟩, True.intro⟩⟩) (by kernel_rfl) (by kernel_rfl) (cc rfl (p_box bx_69 g0 (od rfl id))
      (cc rfl (p_assign g0 (oc _)) cn)) fun a1 w1 b1 s1 => ?_
  have z1 := b1
  refine wp_seq ?_
  refine flowT (s1.keep (sc 1 rfl (sc 2 rfl (sc 3 rfl sn)))) (by kernel_rfl) (cc rfl (p_fieldAddr pt69_0 fa_69_0 g0 (od rfl id))
      (cc rfl (p_loadI ld_3 g0 (od rfl id))
      (cc rfl (p_loadI ld_3 g0 (od rfl id))
      (cc rfl (p_bin g0 (od rfl id) (od rfl id) b_eql_3)
      (cc rfl (p_assign g0 (od rfl id)) cn))))) fun a2 w2 b2 s2 => ?_
  have z2 := z1.trans (b2.mono z1.size)
  exact wp_ret (ret_tmp (fn := Try.f45) s2 3 rfl rfl (fun _ h => h) z2)

set_option maxRecDepth 100000 in
theorem f44 {l : List M} {n : Int} (hl : l.length ≤ 1000000) : Fn False Try.prog 44 [.one (Lay.sl mapL) l, .clo n] (.int .i64 (idxI l n)) := fn2 fun w F v0 v1 h0 h1 hF => by
  go_enter Try.func44, Try.ntmps44
  refine wp_seq ?_
  refine flowC mixed (st0 (U := False) (N := 19) (e := [(0, true, .one (Lay.sl mapL) l), (1, true, .clo n)]) (F := F) rfl rfl hF ⟨⟨rfl, h0⟩, ⟨⟨rfl, h1⟩, True.intro⟩⟩) (by kernel_rfl) (by kernel_rfl) (cc rfl (p_assign g0 (oc _)) cn) fun a1 w1 b1 s1 => ?_
  have z1 := b1
  refine wp_seq ?_
  refine wp_seq ?_
  refine flowC mixed (s1.keep (sc 0 rfl (sc 1 rfl (sc 4 rfl sn)))) (by kernel_rfl) (by kernel_rfl) (cc rfl (p_move g0 (od rfl id))
      (cc rfl (p_len ln_41 g0 (od rfl id))
      (cc rfl (p_move g0 (oc _)) cn))) fun a2 w2 b2 s2 => ?_
  have z2 := z1.trans (b2.mono z1.size)
  refine wp_block ?_
  refine wp_range l.length 8 (fun i => []) (fun i w => ∀ j, j < i → ((l.getD j noM).pa == n) = false) (s2.keep (sc 8 rfl (sc 0 rfl (sc 1 rfl (sc 4 rfl (sc 7 rfl sn)))))) z2 ((fun j hj => absurd hj (Nat.not_lt_zero j))) fun i a3 w3 hi1 s3 z3 x3 => ?_
  refine wp_seq ?_
  refine flowC mixed (s3.keep (sc 0 rfl (sc 1 rfl (sc 4 rfl (sc 7 rfl (sc 8 rfl sn)))))) (by kernel_rfl) (by kernel_rfl) (cc rfl (p_bin g0 (od rfl id) (od rfl id) b_lss_3) cn) fun a4 w4 b4 s4 => ?_
  have z4 := z3.trans (b4.mono z3.size)
  refine wp_seq ?_
  refine s4.cond 9 rfl (fun h => ?_) (fun h => ?_)
  · -- true
    have hlt1 : i < l.length := by simpa using h
    obtain ⟨m, em⟩ : ∃ x, l[i]? = some x := ⟨_, List.getElem?_eq_getElem hlt1⟩
    refine wp_skip ?_
    refine wp_seq ?_
    refine wp_block ?_
    refine wp_seq ?_
    refine flowC mixed (s4.keep (sc 0 rfl (sc 1 rfl (sc 4 rfl (sc 7 rfl (sc 8 rfl (sc 9 rfl sn))))))) (by kernel_rfl) (by kernel_rfl) (cc rfl (p_move g0 (od rfl id))
        (cc rfl (p_assign g0 (od rfl id)) cn)) fun a5 w5 b5 s5 => ?_
    have z5 := z4.trans (b5.mono z4.size)
    refine wp_seq ?_
    refine flowC mixed (s5.keep (sc 0 rfl (sc 1 rfl (sc 4 rfl (sc 5 rfl (sc 7 rfl (sc 8 rfl (sc 9 rfl (sc 10 rfl sn))))))))) (by kernel_rfl) (by kernel_rfl) (cc rfl (p_move g0 (od rfl id))
        (cc rfl (p_move g0 (od rfl id))
        (cc rfl (p_move g0 (od rfl id))
        (cc rfl (p_index ix_41 em g0 (od rfl id) (od rfl id))
        (cc rfl (p_load Try.underlying69 rfl sz_69 g0 (od rfl id))
        (cc rfl (p_callv f45 g0 (od rfl id) (od rfl id)) cn)))))) fun a6 w6 b6 s6 => ?_
    have z6 := z5.trans (b6.mono z5.size)
    refine s6.cond 16 rfl (fun h16 => ?_) (fun h16 => ?_)
    · -- true
      refine wp_seq ?_
      refine flowT (s6.keep (sc 0 rfl (sc 1 rfl (sc 4 rfl (sc 5 rfl (sc 7 rfl (sc 8 rfl (sc 9 rfl (sc 10 rfl (sc 11 rfl (sc 12 rfl (sc 13 rfl (sc 14 rfl (sc 15 rfl (sc 16 rfl sn))))))))))))))) (by kernel_rfl) (cc rfl (p_move g0 (od rfl id))
          (cc rfl (p_assign g0 (od rfl id)) cn)) fun a7 w7 b7 s7 => ?_
      have z7 := z6.trans (b7.mono z6.size)
      have s7 := s7.more 4 (y := .int .i64 (idxI l n)) (int_as (s7.get 4 rfl) (idx_hit x3 em h16))
      exact wp_ret (ret_tmp (fn := Try.f44) s7 4 rfl rfl (fun _ h => h) z7)
    · -- false
      refine wp_skip ?_
      refine flowT (s6.keep (sc 0 rfl (sc 1 rfl (sc 4 rfl (sc 5 rfl (sc 7 rfl (sc 8 rfl (sc 9 rfl (sc 10 rfl (sc 11 rfl (sc 12 rfl (sc 13 rfl (sc 14 rfl (sc 15 rfl (sc 16 rfl sn))))))))))))))) (by kernel_rfl) (cc rfl (p_bin g0 (od rfl id) (oc _) (inc_3 (by omega)))
          (cc rfl (p_move g0 (od rfl id)) cn)) fun a8 w8 b8 s8 => ?_
      have z8 := z6.trans (b8.mono z6.size)
      exact ⟨hlt1, s8.to _ ⟨rfl, rfl, rfl, rfl, rfl, True.intro⟩, z8, idx_go x3 em h16⟩
  · -- false
    obtain rfl : i = l.length := by have := of_decide_eq_false h; (try dsimp only at this); omega
    refine wp_exit ?_
    refine wp_seq ?_
    refine flowT (s4.keep (sc 0 rfl (sc 1 rfl (sc 4 rfl (sc 7 rfl (sc 8 rfl sn)))))) (by kernel_rfl) (cc rfl (p_assign g0 (oc _)) cn) fun a9 w9 b9 s9 => ?_
    have z9 := z4.trans (b9.mono z4.size)
    have s9 := s9.more 4 (y := .int .i64 (idxI l n)) (int_as (s9.get 4 rfl) (idx_miss x3))
    exact wp_ret (ret_tmp (fn := Try.f44) s9 4 rfl rfl (fun _ h => h) z9)

set_option maxRecDepth 100000 in
theorem f25 {l : List M} {n : Int} (hl : l.length ≤ 1000000) : Fn False Try.prog 25 [.one (Lay.sl mapL) l, .int .i64 n] (.two (.one (Lay.sl mapL) (remM l n).1) (.int .i64 (remM l n).2)) := fn2 fun w F v0 v1 h0 h1 hF => by
  go_enter Try.func25, Try.ntmps25
  refine wp_seq ?_
  refine flowC mixed (st0 (U := False) (N := 18) (e := [(0, true, .one (Lay.sl mapL) l), (1, true, .int .i64 n)]) (F := F) rfl rfl hF ⟨⟨rfl, h0⟩, ⟨⟨rfl, h1⟩, True.intro⟩⟩) (by kernel_rfl) (by kernel_rfl) (cc rfl (p_box1 bx_3 g0 (od rfl id))
      (cc rfl (p_assign g0 (oc _))
      (cc rfl (p_assign g0 (oc _)) cn))) fun a1 w1 b1 s1 => ?_
  have z1 := b1
  refine wp_seq ?_
  refine flowC mixed (s1.keep (sc 0 rfl (sc 3 rfl (sc 4 rfl (sc 5 rfl sn))))) (by kernel_rfl) (by kernel_rfl) (cc rfl (p_move g0 (od rfl id))
      (cc rfl (p_clo g0 (od rfl id))
      (cc rfl (p_call 44 g0 (ox (od rfl id) (ox (od rfl id) ox0)) (fun _ _ => by kernel_rfl) (f44 hl))
      (cc rfl (p_assign g0 (od rfl id)) cn)))) fun a2 w2 b2 s2 => ?_
  have z2 := z1.trans (b2.mono z1.size)
  refine wp_seq ?_
  refine wp_seq ?_
  refine flowC mixed (s2.keep (sc 0 rfl (sc 4 rfl (sc 5 rfl (sc 6 rfl sn))))) (by kernel_rfl) (by kernel_rfl) (cc rfl (p_move g0 (od rfl id))
      (cc rfl (p_bin g0 (od rfl id) (oc _) b_lss_3) cn)) fun a3 w3 b3 s3 => ?_
  have z3 := z2.trans (b3.mono z2.size)
  refine s3.cond 11 rfl (fun h11 => ?_) (fun h11 => ?_)
  · -- true
    refine wp_seq ?_
    refine flowT (s3.keep (sc 0 rfl (sc 4 rfl (sc 5 rfl (sc 6 rfl sn))))) (by kernel_rfl) (cc rfl (p_assign g0 (oc _))
        (cc rfl (p_assign g0 (oc _)) cn)) fun a4 w4 b4 s4 => ?_
    have z4 := z3.trans (b4.mono z3.size)
    rw [rem_none h11]
    have s4 := s4.more 4 (y := .one (Lay.sl mapL) ([] : List M)) (nil_one (s4.get 4 rfl))
    exact wp_ret (ret_tmp2 (fn := Try.f25) s4 4 5 rfl rfl rfl (fun _ h => h) z4)
  · -- false
    refine wp_skip ?_
    refine wp_seq ?_
    obtain ⟨hr1, hr2⟩ := rem_some h11
    have s3 := s3.more 0 (y := .both (.past w.heap.size) (.one (Lay.sl mapL) l)) ⟨z3.size, s3.get 0 rfl⟩
    have s3 := s3.more 6 (y := .int .i64 (idxR l n : Int)) (int_as (s3.get 6 rfl) hr2)
    refine wp_region_lit ?_
    refine chainK 5 (cc rfl (p_move g0 (od rfl id))
        (cc rfl (p_call 43 g0 (ox (od rfl id) ox0) (fun _ _ => by kernel_rfl) (f43 hl))
        (cc rfl (p_move g0 (od rfl id))
        (cc rfl (p_move g0 (od rfl id))
        (cc rfl (p_bin g0 (od rfl id) (oc _) b_add_3) cn))))) (by kernel_rfl) (s3.keep (sc 0 rfl (sc 6 rfl sn))) fun a5 w5 b5 s5 => ?_
    have z5 := z3.trans (b5.mono z3.size)
    show wpList _ _ _ (_ :: _) _ _
    refine call_step 46 [.tmp 13, .tmp 14, .tmp 16] rfl (fun _ _ => by kernel_rfl) ?_
    have e14 : a5.tmps.getD 14 undef = .int .i64 (idxR l n : Int) := s5.get 14 rfl
    have e16 : a5.tmps.getD 16 undef = .int .i64 ((idxR l n : Int) + 1) := int_as (s5.get 16 rfl) (by rw [IntKind.wrap_i64]; omega)
    have e13 := s5.get 13 rfl
    have HC := delete_calls (i := idxR l n) e13 hr1
    rw [← e16, ← e14] at HC
    refine HC.mono ?_
    rintro _ w' ⟨v, rfl, o1, g1⟩
    have zz := insert_below z5 e13 g1
    have st := insert_st (F' := F) s5 (hF.below zz) zz 17 v
    have st := st.more 17 (y := .one (Lay.sl mapL) (l.take (idxR l n) ++ l.drop (idxR l n + 1))) (insert_on o1 hF (by simp [s5.size]))
    refine ⟨v, rfl, ?_⟩
    refine chainT (t := []) (cc rfl (p_assign g0 (od rfl id))
        (cc rfl (p_assign g0 (oc _)) cn)) (by kernel_rfl) st fun a6 w6 b6 s6 => wpList_done ?_
    have z6 := zz.trans (b6.mono zz.size)
    rw [show remM l n = (l.take (idxR l n) ++ l.drop (idxR l n + 1), 0) from if_pos hr1]
    exact wp_ret (ret_tmp2 (fn := Try.f25) s6 4 5 rfl rfl rfl (fun _ h => h) z6)


end Go.Proofs.Ytbeeiecbbmiojaa.Y
