/- Ytc: a test of names, and where it holds first -/
import Derived.Test.YtbeeiecbbmiojaaYti
namespace Go.Proofs.Ytbeeiecbbmiojaa.Y
open Go.RowKit Go.ChangeShapes Go.WideShapes Go.ChangeAt Go.ChangeMaps Go.MapKept

section
variable {d : Nat} {t : TypeId} {p : String} {af : Array Edge} {g : Option (Nat × Bool)} {x x2 : Operand}
theorem mk_40 : ∀ (ev : Operand → Value) (w : World) (u : Value), ev x = u → (execOp ev ⟨some d, .makeFunc (.func 40) #[] #[x], t, p, af, g⟩).run Try.prog w = .ok (.value (.func (.func 40) #[] #[u])) w := fun ev w u h1 => by go_simp
theorem cv_40 {T : Array TypeId} : ∀ (ev : Operand → Value) (w : World) (u : Value), ev x = .func (.func 40) #[] #[u] → (execOp ev ⟨some d, .call { callee := .value x, args := #[x2], argTypes := T }, t, p, af, g⟩).run Try.prog w = .ok (.enter 40 #[ev x2, u]) w := fun ev w u h1 => by go_simp
theorem sl_lo {k n cp b : Nat} (hk : k < n) (hn : n ≤ cp) : ∀ (ev : Operand → Value) (w : World), ev x = .slice (some ⟨b, 0, none⟩) n cp → ev x2 = .int .i64 k → (execOp ev ⟨some d, .slice 29 x (some x2) none none, t, p, af, g⟩).run Try.prog w = .ok (.value (.slice (some ⟨b, k, none⟩) (n - k) (cp - k))) w := fun ev w h1 h2 => by
  have e1 : (0 : Int) ≤ (k : Int) ∧ (k : Int) ≤ (n : Int) := by omega
  have e2 : (0 : Int) ≤ (n : Int) ∧ (n : Int) ≤ (cp : Int) := by omega
  have e3 : ¬ cp = k := by omega
  go_simp
theorem sl_hi {k n cp b : Nat} (hk : k ≤ n) (hn : n ≤ cp) : ∀ (ev : Operand → Value) (w : World), ev x = .slice (some ⟨b, 0, none⟩) n cp → ev x2 = .int .i64 k → (execOp ev ⟨some d, .slice 29 x none (some x2) none, t, p, af, g⟩).run Try.prog w = .ok (.value (.slice (some ⟨b, 0, none⟩) k cp)) w := fun ev w h1 h2 => by
  have e1 : (0 : Int) ≤ (k : Int) ∧ (k : Int) ≤ (cp : Int) := by omega
  go_simp
end
/-- The test whether a name is this one. -/
def Sym.cloU (n : Int) : Sym := ⟨fun w F v => ∃ u, v = .func (.func 40) #[] #[u] ∧ (Sym.at (Lay.int .u64) n).on w F u, by rintro _ _ _ _ _ ⟨u, e, h⟩ hk hF; exact ⟨u, e, (Sym.at (Lay.int .u64) n).mono h hk hF⟩⟩
section
variable {U : Prop} {ops : Array Oper} {Q : Exit → Act → World → Prop} {N d : Nat} {e : Env} {t : TypeId} {p : String} {af : Array Edge} {g : Option (Nat × Bool)} {c : Bool} {x x2 : Operand}
theorem p_callU {T : Array TypeId} {n m : Int} {y : Sym} (hc : Fn U Try.prog 40 [.int .u64 m, .at (Lay.int .u64) n] y) (hg : GdE ops e g c) (hx : OpdE e c x (.cloU n)) (hx2 : OpdE e c x2 (.int .u64 m)) : Pays U Try.prog ops Q N e ⟨some d, .call { callee := .value x, args := #[x2], argTypes := T }, t, p, af, g⟩ (c, y) :=
  pOf hg fun e a w F hF hk R hR => by
    obtain ⟨u, e1, h1⟩ := hx a w F (fun s hs => hk s (by simp [Op.operands, Call.operands, hs])) e
    have h2 := hx2 a w F (fun s hs => hk s (by simp [Op.operands, Call.operands, hs])) e
    unfold Oper.wp
    rw [cv_40 _ w u e1, Oper.upon_enter]
    refine (hc w F [a.eval x2, u] rfl (fun i v y h3 h4 => ?_) hF).mono ?_
    · match i, h3, h4 with
      | 0, h3, h4 => simp at h3 h4; subst h3 h4; exact h2
      | 1, h3, h4 => simp at h3 h4; subst h3 h4; exact h1
    · rintro _ w' ⟨v, rfl, h3, h4⟩
      exact hR v w' h4 h3
theorem p_idxV {b off len cap i n : Nat} {u : TypeId} (hr : IndexRun Try.prog ⟨some d, .indexAddr u x x2, t, p, af, g⟩ x x2 n) (hi : i < len) (hg : GdE ops e g c) (hx : OpdE e c x (.val (.slice (some ⟨b, off, none⟩) len cap))) (hx2 : OpdE e c x2 (.int .i64 i)) : Pays U Try.prog ops Q N e ⟨some d, .indexAddr u x x2, t, p, af, g⟩ (c, .val (.pointer (some ⟨b, off + i * n, none⟩))) :=
  pVal hg fun e a w F hk => ⟨_, hr _ w b off len cap i (hx a w F (fun s hs => hk s (by simp [Op.operands, hs])) e) (hx2 a w F (fun s hs => hk s (by simp [Op.operands, hs])) e) hi, rfl⟩
theorem p_lenV {A : Option Addr} {len cap : Nat} {u : TypeId} (hr : LenRun Try.prog ⟨some d, .call { callee := .builtin .len, args := #[x], argTypes := #[u] }, t, p, af, g⟩ x) (hg : GdE ops e g c) (hx : OpdE e c x (.val (.slice A len cap))) : Pays U Try.prog ops Q N e ⟨some d, .call { callee := .builtin .len, args := #[x], argTypes := #[u] }, t, p, af, g⟩ (c, .int .i64 len) :=
  pVal hg fun e a w F hk => ⟨_, hr _ w A len cap (hx a w F (fun s hs => hk s (by simp [Op.operands, Call.operands, hs])) e), rfl⟩
end
/-- Where a number is first. -/
def ixR (l : List Int) (n : Int) : Nat := (l.takeWhile fun m => !(m == n)).length
def ixI (l : List Int) (n : Int) : Int := if ixR l n < l.length then (ixR l n : Int) else -1
theorem ix_is : ∀ {l : List Int} {n : Int} {i : Nat}, (∀ j, j < i → (l.getD j 0 == n) = false) → (i < l.length → (l.getD i 0 == n) = true) → i ≤ l.length → ixR l n = i
  | [], _, i, _, _, h3 => by simp at h3; subst h3; rfl
  | m :: t, n, 0, _, h2, _ => by
    have := h2 (by simp)
    simp at this
    simp [ixR, this]
  | m :: t, n, i + 1, h1, h2, h3 => by
    have h0 := h1 0 (by omega)
    simp at h0
    have ih := ix_is (l := t) (n := n) (i := i) (fun j hj => by have := h1 (j + 1) (by omega); simpa using this) (fun hi => by have := h2 (by simpa using hi); simpa using this) (by simpa using h3)
    unfold ixR at ih ⊢
    rw [List.takeWhile_cons, if_pos (by simpa using h0), List.length_cons, ih]
theorem ix_go {l : List Int} {n : Int} {i : Nat} {m : Int} (hx : ∀ j, j < i → (l.getD j 0 == n) = false) (hm : l[i]? = some m) (h : (m == n) = false) (j : Nat) (hj : j < i + 1) : (l.getD j 0 == n) = false := by
  rcases Nat.lt_or_ge j i with h1 | h1
  · exact hx j h1
  · obtain rfl : j = i := by omega
    rw [show l.getD j 0 = m by simp [List.getD_eq_getElem?_getD, hm]]
    exact h
theorem ix_hit {l : List Int} {n : Int} {i : Nat} {m : Int} (hx : ∀ j, j < i → (l.getD j 0 == n) = false) (hm : l[i]? = some m) (h : (m == n) = true) : (i : Int) = ixI l n := by
  have hi := (List.getElem?_eq_some_iff.1 hm).1
  have e := ix_is (l := l) (n := n) (i := i) hx (fun _ => by rw [show l.getD i 0 = m by simp [List.getD_eq_getElem?_getD, hm]]; exact h) (by omega)
  unfold ixI
  rw [e, if_pos hi]
theorem ix_miss {l : List Int} {n : Int} (hx : ∀ j, j < l.length → (l.getD j 0 == n) = false) : (-1 : Int) = ixI l n := by
  have e := ix_is (l := l) (n := n) (i := l.length) hx (fun h => absurd h (Nat.lt_irrefl _)) (Nat.le_refl _)
  unfold ixI
  rw [e, if_neg (Nat.lt_irrefl _)]
set_option maxRecDepth 100000 in
theorem f40 {m n : Int} : Fn False Try.prog 40 [.int .u64 m, .at (Lay.int .u64) n] (.bool (m == n)) := fn2 fun w F v0 v1 h0 h1 hF => by
  go_enter Try.func40, Try.ntmps40
  refine wp_seq ?_
  refine flowC mixed (st0 (U := False) (N := 7) (e := [(0, true, .int .u64 m), (1, true, .at (Lay.int .u64) n)]) (F := F) rfl rfl hF ⟨⟨rfl, h0⟩, ⟨⟨rfl, h1⟩, True.intro⟩⟩) (by kernel_rfl) (by kernel_rfl) (cc rfl (p_assign g0 (oc _)) cn) fun a1 w1 b1 s1 => ?_
  have z1 := b1
  refine wp_seq ?_
  refine flowT (s1.keep (sc 0 rfl (sc 1 rfl (sc 3 rfl sn)))) (by kernel_rfl) (cc rfl (p_move g0 (od rfl id))
      (cc rfl (p_loadI ld_28 g0 (od rfl id))
      (cc rfl (p_bin g0 (od rfl id) (od rfl id) b_eql_28)
      (cc rfl (p_assign g0 (od rfl id)) cn)))) fun a2 w2 b2 s2 => ?_
  have z2 := z1.trans (b2.mono z1.size)
  exact wp_ret (ret_tmp (fn := Try.f40) s2 3 rfl rfl (fun _ h => h) z2)
set_option maxRecDepth 100000 in
theorem f57 {l : List Int} {n : Int} (hl : l.length ≤ 1000000) : Fn False Try.prog 57 [.one (Lay.sl (Lay.int .u64)) l, .cloU n] (.int .i64 (ixI l n)) := fn2 fun w F v0 v1 h0 h1 hF => by
  go_enter Try.func57, Try.ntmps57
  refine wp_seq ?_
  refine flowC mixed (st0 (U := False) (N := 19) (e := [(0, true, .one (Lay.sl (Lay.int .u64)) l), (1, true, .cloU n)]) (F := F) rfl rfl hF ⟨⟨rfl, h0⟩, ⟨⟨rfl, h1⟩, True.intro⟩⟩) (by kernel_rfl) (by kernel_rfl) (cc rfl (p_assign g0 (oc _)) cn) fun a1 w1 b1 s1 => ?_
  have z1 := b1
  refine wp_seq ?_
  refine wp_seq ?_
  refine flowC mixed (s1.keep (sc 0 rfl (sc 1 rfl (sc 4 rfl sn)))) (by kernel_rfl) (by kernel_rfl) (cc rfl (p_move g0 (od rfl id))
      (cc rfl (p_len ln_29 g0 (od rfl id))
      (cc rfl (p_move g0 (oc _)) cn))) fun a2 w2 b2 s2 => ?_
  have z2 := z1.trans (b2.mono z1.size)
  refine wp_block ?_
  refine wp_range l.length 8 (fun i => []) (fun i w => ∀ j, j < i → (l.getD j 0 == n) = false) (s2.keep (sc 8 rfl (sc 0 rfl (sc 1 rfl (sc 4 rfl (sc 7 rfl sn)))))) z2 ((fun j hj => absurd hj (Nat.not_lt_zero j))) fun i a3 w3 hi1 s3 z3 x3 => ?_
  refine wp_seq ?_
  refine flowC mixed (s3.keep (sc 0 rfl (sc 1 rfl (sc 4 rfl (sc 7 rfl (sc 8 rfl sn)))))) (by kernel_rfl) (by kernel_rfl) (cc rfl (p_bin g0 (od rfl id) (od rfl id) b_lss_3) cn) fun a4 w4 b4 s4 => ?_
  have z4 := z3.trans (b4.mono z3.size)
  refine wp_seq ?_
  refine s4.cond 9 rfl (fun h => ?_) (fun h => ?_)
  · -- true
    have hlt1 : i < l.length := by simpa using h
    obtain ⟨m, em⟩ : ∃ x, l[i]? = some x := ⟨_, List.getElem?_eq_getElem hlt1⟩
    refine wp_skip ?_
    refine wp_seq ?_
    refine wp_block ?_
    refine wp_seq ?_
    refine flowC mixed (s4.keep (sc 0 rfl (sc 1 rfl (sc 4 rfl (sc 7 rfl (sc 8 rfl (sc 9 rfl sn))))))) (by kernel_rfl) (by kernel_rfl) (cc rfl (p_move g0 (od rfl id))
        (cc rfl (p_assign g0 (od rfl id)) cn)) fun a5 w5 b5 s5 => ?_
    have z5 := z4.trans (b5.mono z4.size)
    refine wp_seq ?_
    refine flowC mixed (s5.keep (sc 0 rfl (sc 1 rfl (sc 4 rfl (sc 5 rfl (sc 7 rfl (sc 8 rfl (sc 9 rfl (sc 10 rfl sn))))))))) (by kernel_rfl) (by kernel_rfl) (cc rfl (p_move g0 (od rfl id))
        (cc rfl (p_move g0 (od rfl id))
        (cc rfl (p_move g0 (od rfl id))
        (cc rfl (p_index ix_29 em g0 (od rfl id) (od rfl id))
        (cc rfl (p_loadI ld_28 g0 (od rfl id))
        (cc rfl (p_callU f40 g0 (od rfl id) (od rfl id)) cn)))))) fun a6 w6 b6 s6 => ?_
    have z6 := z5.trans (b6.mono z5.size)
    refine s6.cond 16 rfl (fun h16 => ?_) (fun h16 => ?_)
    · -- true
      refine wp_seq ?_
      refine flowT (s6.keep (sc 0 rfl (sc 1 rfl (sc 4 rfl (sc 5 rfl (sc 7 rfl (sc 8 rfl (sc 9 rfl (sc 10 rfl (sc 11 rfl (sc 12 rfl (sc 13 rfl (sc 14 rfl (sc 15 rfl (sc 16 rfl sn))))))))))))))) (by kernel_rfl) (cc rfl (p_move g0 (od rfl id))
          (cc rfl (p_assign g0 (od rfl id)) cn)) fun a7 w7 b7 s7 => ?_
      have z7 := z6.trans (b7.mono z6.size)
      have s7 := s7.more 4 (y := .int .i64 (ixI l n)) (int_as (s7.get 4 rfl) (ix_hit x3 em h16))
      exact wp_ret (ret_tmp (fn := Try.f57) s7 4 rfl rfl (fun _ h => h) z7)
    · -- false
      refine wp_skip ?_
      refine flowT (s6.keep (sc 0 rfl (sc 1 rfl (sc 4 rfl (sc 5 rfl (sc 7 rfl (sc 8 rfl (sc 9 rfl (sc 10 rfl (sc 11 rfl (sc 12 rfl (sc 13 rfl (sc 14 rfl (sc 15 rfl (sc 16 rfl sn))))))))))))))) (by kernel_rfl) (cc rfl (p_bin g0 (od rfl id) (oc _) (inc_3 (by omega)))
          (cc rfl (p_move g0 (od rfl id)) cn)) fun a8 w8 b8 s8 => ?_
      have z8 := z6.trans (b8.mono z6.size)
      exact ⟨hlt1, s8.to _ ⟨rfl, rfl, rfl, rfl, rfl, True.intro⟩, z8, ix_go x3 em h16⟩
  · -- false
    obtain rfl : i = l.length := by have := of_decide_eq_false h; (try dsimp only at this); omega
    refine wp_exit ?_
    refine wp_seq ?_
    refine flowT (s4.keep (sc 0 rfl (sc 1 rfl (sc 4 rfl (sc 7 rfl (sc 8 rfl sn)))))) (by kernel_rfl) (cc rfl (p_assign g0 (oc _)) cn) fun a9 w9 b9 s9 => ?_
    have z9 := z4.trans (b9.mono z4.size)
    have s9 := s9.more 4 (y := .int .i64 (ixI l n)) (int_as (s9.get 4 rfl) (ix_miss x3))
    exact wp_ret (ret_tmp (fn := Try.f57) s9 4 rfl rfl (fun _ h => h) z9)

end Go.Proofs.Ytbeeiecbbmiojaa.Y
