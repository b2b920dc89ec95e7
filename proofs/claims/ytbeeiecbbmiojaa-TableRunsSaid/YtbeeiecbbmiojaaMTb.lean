/- MTb: Yti, Ytc, Ytd, Yte, Ytr, one behind the other. -/
import Derived.Test.YtbeeiecbbmiojaaYta
import Derived.Test.YtbeeiecbbmiojaaYcalln

/- Yti: (*Table).In -/
namespace Go.Proofs.Ytbeeiecbbmiojaa.Y
open Go.RowKit Go.ChangeShapes Go.WideShapes Go.ChangeAt Go.ChangeMaps Go.MapKept

/-- Is an object in a container, by so many steps? -/
def inF (t : Tab) (nm c : Int) : Nat → Int → Option Bool
  | 0, _ => none
  | k + 1, n => if n = 0 then some false else if n = c then some (t.tm.lookup nm).isSome else match t.tm.lookup n with
    | none => some false
    | some g => match t.ob g with
      | none => none
      | some o => inF t nm c k o.home
theorem in_0 {t : Tab} {nm c : Int} {k : Nat} {b : Bool} (h : inF t nm c k 0 = some b) : b = false := by
  cases k with
  | zero => cases h
  | succ k => simp [inF] at h; exact h
theorem in_c {t : Tab} {nm c n : Int} {k : Nat} {b : Bool} (h : inF t nm c k n = some b) (h0 : n ≠ 0) (hc : n = c) : b = (t.tm.lookup nm).isSome := by
  cases k with
  | zero => cases h
  | succ k => rw [inF, if_neg h0, if_pos hc] at h; injection h with h; exact h.symm
theorem in_none {t : Tab} {nm c n : Int} {k : Nat} {b : Bool} (h : inF t nm c k n = some b) (h0 : n ≠ 0) (hc : n ≠ c) (hl : t.tm.lookup n = none) : b = false := by
  cases k with
  | zero => cases h
  | succ k => rw [inF, if_neg h0, if_neg hc, hl] at h; injection h with h; exact h.symm
theorem in_some {t : Tab} {nm c n : Int} {k : Nat} {b : Bool} {g : Nat} (h : inF t nm c k n = some b) (h0 : n ≠ 0) (hc : n ≠ c) (hl : t.tm.lookup n = some g) : ∃ o k', t.ob g = some o ∧ k' < k ∧ inF t nm c k' o.home = some b := by
  cases k with
  | zero => cases h
  | succ k =>
    rw [inF, if_neg h0, if_neg hc, hl] at h
    cases ho : t.ob g with
    | none => simp [ho] at h
    | some o => simp only [ho] at h; exact ⟨o, k, rfl, Nat.lt_succ_self k, h⟩
abbrev InE (gT : Nat) (nm c n : Int) : Env := [(0, true, .val (ptrV gT)), (1, true, .val (.int .u64 nm)), (2, true, .val (.int .u64 c)), (7, true, .val (.int .u64 n))]
structure InK (w : World) (B gT gM : Nat) (t : Tab) (kv : Nat → Value) (nm c : Int) (b : Bool) (k : Nat) (n : Int) (a : Act) (wr : World) : Prop where
  tab : TabAt wr B gT gM t kv
  fuel : inF t nm c k n = some b
  only : OnlyB (fun _ => False) w wr
  st : StE False 37 (InE gT nm c n) noF a wr
set_option maxRecDepth 100000 in
/-- Is an object in a container? -/
theorem cIn {w : World} {B gT gM : Nat} {t : Tab} {kv : Nat → Value} {nm c : Int} {b : Bool} {k : Nat} (hk : inF t nm c k nm = some b) (hT : TabAt w B gT gM t kv) : Calls Try.prog 36 #[ptrV gT, .int .u64 nm, .int .u64 c] w fun e w' => ∃ v, e = .returned v ∧ v = .bool b ∧ Below w.heap.size w w' := by
  have z0 : OnlyB (fun _ => False) w w := OnlyB.refl _ _
  go_enter Try.func36, Try.ntmps36
  refine wp_seq ?_
  refine flowC mixed (st0 (U := False) (N := 37) (e := [(0, true, .val (ptrV gT)), (1, true, .val (.int .u64 nm)), (2, true, .val (.int .u64 c))]) (F := noF) rfl rfl (fok_no _ _) ⟨⟨rfl, rfl⟩, ⟨⟨rfl, rfl⟩, ⟨⟨rfl, rfl⟩, True.intro⟩⟩⟩) (by kernel_rfl) (by kernel_rfl) (cc rfl (p_assign g0 (oc _)) cn) fun a1 w1 b1 s1 => ?_
  have z1 := z0.below b1
  have hT := hT.below b1
  refine wp_seq ?_
  refine wp_seq ?_
  refine flowC mixed (s1.keep (sc 0 rfl (sc 1 rfl (sc 2 rfl (sc 6 rfl sn))))) (by kernel_rfl) (by kernel_rfl) (cc rfl (p_move g0 (od rfl id))
      (cc rfl (p_assign g0 (od rfl id)) cn)) fun a2 w2 b2 s2 => ?_
  have z2 := z1.below b2
  have hT := hT.below b2
  refine wp_block ?_
  refine wp_loopK (fun k a wr => ∃ n, InK w B gT gM t kv nm c b k n a wr) k ⟨nm, hT, hk, z2, s2.to _ ⟨rfl, rfl, rfl, rfl, True.intro⟩⟩ fun k a3 w3 hI => ?_
  obtain ⟨n, hT, hk, z3, s3⟩ := hI
  refine wp_seq ?_
  refine wp_seq ?_
  refine flowC mixed (s3.keep (sc 0 rfl (sc 1 rfl (sc 2 rfl (sc 7 rfl sn))))) (by kernel_rfl) (by kernel_rfl) (cc rfl (p_move g0 (od rfl id))
      (cc rfl (p_bin g0 (od rfl id) (oc _) b_neq_28) cn)) fun a4 w4 b4 s4 => ?_
  have z4 := z3.below b4
  have hT := hT.below b4
  refine s4.cond 10 rfl (fun h10 => ?_) (fun h10 => ?_)
  · -- true
    have hn0 : n ≠ 0 := by simpa using h10
    refine wp_skip ?_
    refine wp_seq ?_
    refine wp_block ?_
    refine wp_seq ?_
    refine wp_seq ?_
    refine flowC mixed (s4.keep (sc 0 rfl (sc 1 rfl (sc 2 rfl (sc 7 rfl (sc 9 rfl (sc 10 rfl sn))))))) (by kernel_rfl) (by kernel_rfl) (cc rfl (p_move g0 (od rfl id))
        (cc rfl (p_move g0 (od rfl id))
        (cc rfl (p_bin g0 (od rfl id) (od rfl id) b_eql_28) cn))) fun a5 w5 b5 s5 => ?_
    have z5 := z4.below b5
    have hT := hT.below b5
    refine s5.cond 22 rfl (fun h22 => ?_) (fun h22 => ?_)
    · -- true
      have hnc : n = c := by simpa using h22
      have hb := in_c hk hn0 hnc
      refine wp_seq ?_
      have s5 := s5.more 0 (y := .tab gT gM 104 t.vals) (at_tab hT (s5.get 0 rfl))
      refine flowC mixed (s5.keep (sc 0 rfl (sc 1 rfl (sc 2 rfl (sc 7 rfl (sc 9 rfl (sc 10 rfl (sc 20 rfl (sc 21 rfl (sc 22 rfl sn)))))))))) (by kernel_rfl) (by kernel_rfl) (cc rfl (p_move g0 (od rfl id))
          (cc rfl (p_nilT g0 (od rfl id))
          (cc rfl (p_faT fa_104_0 g0 (od rfl id))
          (cc rfl (p_ldT ld_102 g0 (od rfl id))
          (cc rfl (p_move g0 (od rfl id))
          (cc rfl (p_lookO Try.underlying102 Try.underlying28 zero27 (tab_look _ _) g0 (od rfl id) (od rfl id))
          (cc rfl (p_bin g0 (od rfl id) (oc _) b_neP)
          (cc rfl (p_assign g0 (od rfl id)) cn)))))))) fun a6 w6 b6 s6 => ?_
      have z6 := z5.below b6
      have hT := hT.below b6
      exact wp_ret (ret_o (fn := Try.f36) (R := fun v w' => v = .bool b ∧ Below w.heap.size w w') (v := .bool (t.tm.lookup nm).isSome) s6 6 rfl rfl ⟨by rw [hb], z6.to_below (fun _ _ h => h) (Nat.le_refl _)⟩)
    · -- false
      have hnc : n ≠ c := by simpa using h22
      refine wp_skip ?_
      refine wp_seq ?_
      have s5 := s5.more 0 (y := .tab gT gM 104 t.vals) (at_tab hT (s5.get 0 rfl))
      refine flowC mixed (s5.keep (sc 0 rfl (sc 1 rfl (sc 2 rfl (sc 7 rfl (sc 9 rfl (sc 10 rfl (sc 20 rfl (sc 21 rfl (sc 22 rfl sn)))))))))) (by kernel_rfl) (by kernel_rfl) (cc rfl (p_move g0 (od rfl id))
          (cc rfl (p_nilT g0 (od rfl id))
          (cc rfl (p_faT fa_104_0 g0 (od rfl id))
          (cc rfl (p_ldT ld_102 g0 (od rfl id))
          (cc rfl (p_move g0 (od rfl id))
          (cc rfl (p_lookO Try.underlying102 Try.underlying28 zero27 (tab_look _ _) g0 (od rfl id) (od rfl id))
          (cc rfl (p_bin g0 (od rfl id) (oc _) b_eqP) cn))))))) fun a7 w7 b7 s7 => ?_
      have z7 := z5.below b7
      have hT := hT.below b7
      refine s7.cond 36 rfl (fun h36 => ?_) (fun h36 => ?_)
      · -- true
        cases hl : t.tm.lookup n with
        | some g => rw [hl] at h36; cases h36
        | none =>
          have hb := in_none hk hn0 hnc hl
          refine wp_seq ?_
          refine flowC mixed (s7.keep (sc 0 rfl (sc 1 rfl (sc 2 rfl (sc 7 rfl (sc 9 rfl (sc 10 rfl (sc 20 rfl (sc 21 rfl (sc 22 rfl (sc 30 rfl (sc 31 rfl (sc 32 rfl (sc 33 rfl (sc 34 rfl (sc 35 rfl (sc 36 rfl sn))))))))))))))))) (by kernel_rfl) (by kernel_rfl) (cc rfl (p_assign g0 (oc _)) cn) fun a8 w8 b8 s8 => ?_
          have z8 := z7.below b8
          have hT := hT.below b8
          exact wp_ret (ret_o (fn := Try.f36) (R := fun v w' => v = .bool b ∧ Below w.heap.size w w') (v := .bool false) s8 6 rfl rfl ⟨by rw [hb], z8.to_below (fun _ _ h => h) (Nat.le_refl _)⟩)
      · -- false
        cases hl : t.tm.lookup n with
        | none => rw [hl] at h36; cases h36
        | some g =>
          obtain ⟨q, k2, hq, hk2, hi2⟩ := in_some hk hn0 hnc hl
          refine wp_skip ?_
          refine wp_region_lit ?_
          refine with_st (s7.keep (sc 0 rfl (sc 1 rfl (sc 2 rfl (sc 7 rfl sn))))) fun s7 => ?_
          refine chainK 6 (cc rfl (p_move g0 (od rfl id))
              (cc rfl (p_nilT g0 (od rfl id))
              (cc rfl (p_faT fa_104_0 g0 (od rfl id))
              (cc rfl (p_ldT ld_102 g0 (od rfl id))
              (cc rfl (p_move g0 (od rfl id))
              (cc rfl (p_lookO Try.underlying102 Try.underlying28 zero27 (tab_look _ _) g0 (od rfl id) (od rfl id)) cn)))))) (by kernel_rfl) s7 fun a9 w9 b9 s9 => ?_
          have z9 := z7.below b9
          have hT := hT.below b9
          rw [hl] at s9
          have s9 := s9.more 16 (y := .bp g 48 (toC q (kv g)) 0) (at_obj (hT.ob _ _ hq).blk (s9.get 16 rfl))
          have s9 := s9.keep (sc 0 rfl (sc 1 rfl (sc 2 rfl (sc 16 rfl sn))))
          refine chainT (t := []) (cc rfl (p_nilB g0 (od rfl id))
              (cc rfl (p_faB fa_48_4 g0 (od rfl id))
              (cc rfl (p_ldB ld_28 rfl g0 (od rfl id))
              (cc rfl (p_assign g0 (od rfl id)) cn)))) (by kernel_rfl) s9 fun a10 w10 b10 s10 => wpList_done ?_
          have z10 := z9.below b10
          have hT := hT.below b10
          have s10 := s10.more 0 (y := .val (ptrV gT)) (s10.get 0 rfl).1
          exact ⟨k2, hk2, q.home, hT, hi2, z10, s10.to _ ⟨rfl, rfl, rfl, rfl, True.intro⟩⟩
  · -- false
    obtain rfl : n = 0 := by simpa using h10
    have hb := in_0 hk
    refine wp_exit ?_
    refine wp_seq ?_
    refine flowC mixed (s4.keep (sc 0 rfl (sc 1 rfl (sc 2 rfl (sc 7 rfl sn))))) (by kernel_rfl) (by kernel_rfl) (cc rfl (p_assign g0 (oc _)) cn) fun a11 w11 b11 s11 => ?_
    have z11 := z4.below b11
    have hT := hT.below b11
    exact wp_ret (ret_o (fn := Try.f36) (R := fun v w' => v = .bool b ∧ Below w.heap.size w w') (v := .bool false) s11 6 rfl rfl ⟨by rw [hb], z11.to_below (fun _ _ h => h) (Nat.le_refl _)⟩)

end Go.Proofs.Ytbeeiecbbmiojaa.Y

/- Ytc: a test of names, and where it holds first -/
namespace Go.Proofs.Ytbeeiecbbmiojaa.Y
open Go.RowKit Go.ChangeShapes Go.WideShapes Go.ChangeAt Go.ChangeMaps Go.MapKept

section
variable {d : Nat} {t : TypeId} {p : String} {af : Array Edge} {g : Option (Nat × Bool)} {x x2 : Operand}
theorem mk_40 : ∀ (ev : Operand → Value) (w : World) (u : Value), ev x = u → (execOp ev ⟨some d, .makeFunc (.func 40) #[] #[x], t, p, af, g⟩).run Try.prog w = .ok (.value (.func (.func 40) #[] #[u])) w := fun ev w u h1 => by go_simp
theorem cv_40 {T : Array TypeId} : ∀ (ev : Operand → Value) (w : World) (u : Value), ev x = .func (.func 40) #[] #[u] → (execOp ev ⟨some d, .call { callee := .value x, args := #[x2], argTypes := T }, t, p, af, g⟩).run Try.prog w = .ok (.enter 40 #[ev x2, u]) w := fun ev w u h1 => by go_simp
theorem sl_lo {k n cp b : Nat} (hk : k < n) (hn : n ≤ cp) : ∀ (ev : Operand → Value) (w : World), ev x = .slice (some ⟨b, 0, none⟩) n cp → ev x2 = .int .i64 k → (execOp ev ⟨some d, .slice 29 x (some x2) none none, t, p, af, g⟩).run Try.prog w = .ok (.value (.slice (some ⟨b, k, none⟩) (n - k) (cp - k))) w := fun ev w h1 h2 => by
  have e1 : (0 : Int) ≤ (k : Int) ∧ (k : Int) ≤ (n : Int) := by omega
  have e2 : (0 : Int) ≤ (n : Int) ∧ (n : Int) ≤ (cp : Int) := by omega
  have e3 : ¬ cp = k := by omega
  go_simp
theorem sl_hi {k n cp b : Nat} (hk : k ≤ n) (hn : n ≤ cp) : ∀ (ev : Operand → Value) (w : World), ev x = .slice (some ⟨b, 0, none⟩) n cp → ev x2 = .int .i64 k → (execOp ev ⟨some d, .slice 29 x none (some x2) none, t, p, af, g⟩).run Try.prog w = .ok (.value (.slice (some ⟨b, 0, none⟩) k cp)) w := fun ev w h1 h2 => by
  have e1 : (0 : Int) ≤ (k : Int) ∧ (k : Int) ≤ (cp : Int) := by omega
  go_simp
end
/-- The test whether a name is this one. -/
def Sym.cloU (n : Int) : Sym := ⟨fun w F v => ∃ u, v = .func (.func 40) #[] #[u] ∧ (Sym.at (Lay.int .u64) n).on w F u, by rintro _ _ _ _ _ ⟨u, e, h⟩ hk hF; exact ⟨u, e, (Sym.at (Lay.int .u64) n).mono h hk hF⟩⟩
section
variable {U : Prop} {ops : Array Oper} {Q : Exit → Act → World → Prop} {N d : Nat} {e : Env} {t : TypeId} {p : String} {af : Array Edge} {g : Option (Nat × Bool)} {c : Bool} {x x2 : Operand}
theorem p_callU {T : Array TypeId} {n m : Int} {y : Sym} (hc : Fn U Try.prog 40 [.int .u64 m, .at (Lay.int .u64) n] y) (hg : GdE ops e g c) (hx : OpdE e c x (.cloU n)) (hx2 : OpdE e c x2 (.int .u64 m)) : Pays U Try.prog ops Q N e ⟨some d, .call { callee := .value x, args := #[x2], argTypes := T }, t, p, af, g⟩ (c, y) :=
  pOf hg fun e a w F hF hk R hR => by
    obtain ⟨u, e1, h1⟩ := hx a w F (fun s hs => hk s (by simp [Op.operands, Call.operands, hs])) e
    have h2 := hx2 a w F (fun s hs => hk s (by simp [Op.operands, Call.operands, hs])) e
    unfold Oper.wp
    rw [cv_40 _ w u e1, Oper.upon_enter]
    refine (hc w F [a.eval x2, u] rfl (fun i v y h3 h4 => ?_) hF).mono ?_
    · match i, h3, h4 with
      | 0, h3, h4 => simp at h3 h4; subst h3 h4; exact h2
      | 1, h3, h4 => simp at h3 h4; subst h3 h4; exact h1
    · rintro _ w' ⟨v, rfl, h3, h4⟩
      exact hR v w' h4 h3
theorem p_idxV {b off len cap i n : Nat} {u : TypeId} (hr : IndexRun Try.prog ⟨some d, .indexAddr u x x2, t, p, af, g⟩ x x2 n) (hi : i < len) (hg : GdE ops e g c) (hx : OpdE e c x (.val (.slice (some ⟨b, off, none⟩) len cap))) (hx2 : OpdE e c x2 (.int .i64 i)) : Pays U Try.prog ops Q N e ⟨some d, .indexAddr u x x2, t, p, af, g⟩ (c, .val (.pointer (some ⟨b, off + i * n, none⟩))) :=
  pVal hg fun e a w F hk => ⟨_, hr _ w b off len cap i (hx a w F (fun s hs => hk s (by simp [Op.operands, hs])) e) (hx2 a w F (fun s hs => hk s (by simp [Op.operands, hs])) e) hi, rfl⟩
theorem p_lenV {A : Option Addr} {len cap : Nat} {u : TypeId} (hr : LenRun Try.prog ⟨some d, .call { callee := .builtin .len, args := #[x], argTypes := #[u] }, t, p, af, g⟩ x) (hg : GdE ops e g c) (hx : OpdE e c x (.val (.slice A len cap))) : Pays U Try.prog ops Q N e ⟨some d, .call { callee := .builtin .len, args := #[x], argTypes := #[u] }, t, p, af, g⟩ (c, .int .i64 len) :=
  pVal hg fun e a w F hk => ⟨_, hr _ w A len cap (hx a w F (fun s hs => hk s (by simp [Op.operands, Call.operands, hs])) e), rfl⟩
end
/-- Where a number is first. -/
def ixR (l : List Int) (n : Int) : Nat := (l.takeWhile fun m => !(m == n)).length
def ixI (l : List Int) (n : Int) : Int := if ixR l n < l.length then (ixR l n : Int) else -1
theorem ix_is : ∀ {l : List Int} {n : Int} {i : Nat}, (∀ j, j < i → (l.getD j 0 == n) = false) → (i < l.length → (l.getD i 0 == n) = true) → i ≤ l.length → ixR l n = i
  | [], _, i, _, _, h3 => by simp at h3; subst h3; rfl
  | m :: t, n, 0, _, h2, _ => by
    have := h2 (by simp)
    simp at this
    simp [ixR, this]
  | m :: t, n, i + 1, h1, h2, h3 => by
    have h0 := h1 0 (by omega)
    simp at h0
    have ih := ix_is (l := t) (n := n) (i := i) (fun j hj => by have := h1 (j + 1) (by omega); simpa using this) (fun hi => by have := h2 (by simpa using hi); simpa using this) (by simpa using h3)
    unfold ixR at ih ⊢
    rw [List.takeWhile_cons, if_pos (by simpa using h0), List.length_cons, ih]
theorem ix_go {l : List Int} {n : Int} {i : Nat} {m : Int} (hx : ∀ j, j < i → (l.getD j 0 == n) = false) (hm : l[i]? = some m) (h : (m == n) = false) (j : Nat) (hj : j < i + 1) : (l.getD j 0 == n) = false := by
  rcases Nat.lt_or_ge j i with h1 | h1
  · exact hx j h1
  · obtain rfl : j = i := by omega
    rw [show l.getD j 0 = m by simp [List.getD_eq_getElem?_getD, hm]]
    exact h
theorem ix_hit {l : List Int} {n : Int} {i : Nat} {m : Int} (hx : ∀ j, j < i → (l.getD j 0 == n) = false) (hm : l[i]? = some m) (h : (m == n) = true) : (i : Int) = ixI l n := by
  have hi := (List.getElem?_eq_some_iff.1 hm).1
  have e := ix_is (l := l) (n := n) (i := i) hx (fun _ => by rw [show l.getD i 0 = m by simp [List.getD_eq_getElem?_getD, hm]]; exact h) (by omega)
  unfold ixI
  rw [e, if_pos hi]
theorem ix_miss {l : List Int} {n : Int} (hx : ∀ j, j < l.length → (l.getD j 0 == n) = false) : (-1 : Int) = ixI l n := by
  have e := ix_is (l := l) (n := n) (i := l.length) hx (fun h => absurd h (Nat.lt_irrefl _)) (Nat.le_refl _)
  unfold ixI
  rw [e, if_neg (Nat.lt_irrefl _)]
set_option maxRecDepth 100000 in
theorem f40 {m n : Int} : Fn False Try.prog 40 [.int .u64 m, .at (Lay.int .u64) n] (.bool (m == n)) := fn2 fun w F v0 v1 h0 h1 hF => by
  go_enter Try.func40, Try.ntmps40
  refine wp_seq ?_
  refine flowC mixed (st0 (U := False) (N := 7) (e := [(0, true, .int .u64 m), (1, true, .at (Lay.int .u64) n)]) (F := F) rfl rfl hF ⟨⟨rfl, h0⟩, ⟨⟨rfl, h1⟩, True.intro⟩⟩) (by kernel_rfl) (by kernel_rfl) (cc rfl (p_assign g0 (oc _)) cn) fun a1 w1 b1 s1 => ?_
  have z1 := b1
  refine wp_seq ?_
  refine flowT (s1.keep (sc 0 rfl (sc 1 rfl (sc 3 rfl sn)))) (by kernel_rfl) (cc rfl (p_move g0 (od rfl id))
      (cc rfl (p_loadI ld_28 g0 (od rfl id))
      (cc rfl (p_bin g0 (od rfl id) (od rfl id) b_eql_28)
      (cc rfl (p_assign g0 (od rfl id)) cn)))) fun a2 w2 b2 s2 => ?_
  have z2 := z1.trans (b2.mono z1.size)
  exact wp_ret (ret_tmp (fn := Try.f40) s2 3 rfl rfl (fun _ h => h) z2)
set_option maxRecDepth 100000 in
theorem f57 {l : List Int} {n : Int} (hl : l.length ≤ 1000000) : Fn False Try.prog 57 [.one (Lay.sl (Lay.int .u64)) l, .cloU n] (.int .i64 (ixI l n)) := fn2 fun w F v0 v1 h0 h1 hF => by
  go_enter Try.func57, Try.ntmps57
  refine wp_seq ?_
  refine flowC mixed (st0 (U := False) (N := 19) (e := [(0, true, .one (Lay.sl (Lay.int .u64)) l), (1, true, .cloU n)]) (F := F) rfl rfl hF ⟨⟨rfl, h0⟩, ⟨⟨rfl, h1⟩, True.intro⟩⟩) (by kernel_rfl) (by kernel_rfl) (cc rfl (p_assign g0 (oc _)) cn) fun a1 w1 b1 s1 => ?_
  have z1 := b1
  refine wp_seq ?_
  refine wp_seq ?_
  refine flowC mixed (s1.keep (sc 0 rfl (sc 1 rfl (sc 4 rfl sn)))) (by kernel_rfl) (by kernel_rfl) (cc rfl (p_move g0 (od rfl id))
      (cc rfl (p_len ln_29 g0 (od rfl id))
      (cc rfl (p_move g0 (oc _)) cn))) fun a2 w2 b2 s2 => ?_
  have z2 := z1.trans (b2.mono z1.size)
  refine wp_block ?_
  refine wp_range l.length 8 (fun i => []) (fun i w => ∀ j, j < i → (l.getD j 0 == n) = false) (s2.keep (sc 8 rfl (sc 0 rfl (sc 1 rfl (sc 4 rfl (sc 7 rfl sn)))))) z2 ((fun j hj => absurd hj (Nat.not_lt_zero j))) fun i a3 w3 hi1 s3 z3 x3 => ?_
  refine wp_seq ?_
  refine flowC mixed (s3.keep (sc 0 rfl (sc 1 rfl (sc 4 rfl (sc 7 rfl (sc 8 rfl sn)))))) (by kernel_rfl) (by kernel_rfl) (cc rfl (p_bin g0 (od rfl id) (od rfl id) b_lss_3) cn) fun a4 w4 b4 s4 => ?_
  have z4 := z3.trans (b4.mono z3.size)
  refine wp_seq ?_
  refine s4.cond 9 rfl (fun h => ?_) (fun h => ?_)
  · -- true
    have hlt1 : i < l.length := by simpa using h
    obtain ⟨m, em⟩ : ∃ x, l[i]? = some x := ⟨_, List.getElem?_eq_getElem hlt1⟩
    refine wp_skip ?_
    refine wp_seq ?_
    refine wp_block ?_
    refine wp_seq ?_
    refine flowC mixed (s4.keep (sc 0 rfl (sc 1 rfl (sc 4 rfl (sc 7 rfl (sc 8 rfl (sc 9 rfl sn))))))) (by kernel_rfl) (by kernel_rfl) (cc rfl (p_move g0 (od rfl id))
        (cc rfl (p_assign g0 (od rfl id)) cn)) fun a5 w5 b5 s5 => ?_
    have z5 := z4.trans (b5.mono z4.size)
    refine wp_seq ?_
    refine flowC mixed (s5.keep (sc 0 rfl (sc 1 rfl (sc 4 rfl (sc 5 rfl (sc 7 rfl (sc 8 rfl (sc 9 rfl (sc 10 rfl sn))))))))) (by kernel_rfl) (by kernel_rfl) (cc rfl (p_move g0 (od rfl id))
        (cc rfl (p_move g0 (od rfl id))
        (cc rfl (p_move g0 (od rfl id))
        (cc rfl (p_index ix_29 em g0 (od rfl id) (od rfl id))
        (cc rfl (p_loadI ld_28 g0 (od rfl id))
        (cc rfl (p_callU f40 g0 (od rfl id) (od rfl id)) cn)))))) fun a6 w6 b6 s6 => ?_
    have z6 := z5.trans (b6.mono z5.size)
    refine s6.cond 16 rfl (fun h16 => ?_) (fun h16 => ?_)
    · -- true
      refine wp_seq ?_
      refine flowT (s6.keep (sc 0 rfl (sc 1 rfl (sc 4 rfl (sc 5 rfl (sc 7 rfl (sc 8 rfl (sc 9 rfl (sc 10 rfl (sc 11 rfl (sc 12 rfl (sc 13 rfl (sc 14 rfl (sc 15 rfl (sc 16 rfl sn))))))))))))))) (by kernel_rfl) (cc rfl (p_move g0 (od rfl id))
          (cc rfl (p_assign g0 (od rfl id)) cn)) fun a7 w7 b7 s7 => ?_
      have z7 := z6.trans (b7.mono z6.size)
      have s7 := s7.more 4 (y := .int .i64 (ixI l n)) (int_as (s7.get 4 rfl) (ix_hit x3 em h16))
      exact wp_ret (ret_tmp (fn := Try.f57) s7 4 rfl rfl (fun _ h => h) z7)
    · -- false
      refine wp_skip ?_
      refine flowT (s6.keep (sc 0 rfl (sc 1 rfl (sc 4 rfl (sc 5 rfl (sc 7 rfl (sc 8 rfl (sc 9 rfl (sc 10 rfl (sc 11 rfl (sc 12 rfl (sc 13 rfl (sc 14 rfl (sc 15 rfl (sc 16 rfl sn))))))))))))))) (by kernel_rfl) (cc rfl (p_bin g0 (od rfl id) (oc _) (inc_3 (by omega)))
          (cc rfl (p_move g0 (od rfl id)) cn)) fun a8 w8 b8 s8 => ?_
      have z8 := z6.trans (b8.mono z6.size)
      exact ⟨hlt1, s8.to _ ⟨rfl, rfl, rfl, rfl, rfl, True.intro⟩, z8, ix_go x3 em h16⟩
  · -- false
    obtain rfl : i = l.length := by have := of_decide_eq_false h; (try dsimp only at this); omega
    refine wp_exit ?_
    refine wp_seq ?_
    refine flowT (s4.keep (sc 0 rfl (sc 1 rfl (sc 4 rfl (sc 7 rfl (sc 8 rfl sn)))))) (by kernel_rfl) (cc rfl (p_assign g0 (oc _)) cn) fun a9 w9 b9 s9 => ?_
    have z9 := z4.trans (b9.mono z4.size)
    have s9 := s9.more 4 (y := .int .i64 (ixI l n)) (int_as (s9.get 4 rfl) (ix_miss x3))
    exact wp_ret (ret_tmp (fn := Try.f57) s9 4 rfl rfl (fun _ h => h) z9)

end Go.Proofs.Ytbeeiecbbmiojaa.Y

/- Ytd: what slices.DeleteFunc does to a row of names -/
namespace Go.Proofs.Ytbeeiecbbmiojaa.Y
open Go.RowKit Go.ChangeShapes Go.WideShapes Go.ChangeAt Go.ChangeMaps Go.MapKept

section
variable {P : Program} {Q : Exit → Act → World → Prop} {N : Nat} {e e2 : Env} {a : Act} {w : World} {ops : Array Oper} {rest : List Oper} {o : Oper}
/-- A call whose operands are told by the step itself. -/
theorem callW {f : FuncId} {d : Nat} {R : Value → World → Prop} {args : Array Value} (h : StE False N e noF a w) (hw : Region.wanted o (yielded ops a.tmps) = true) (hr : (execOp a.eval o).run P w = .ok (.enter f args) w) (hd : o.dst = some d) (hdN : decide (d < N) = true)
    (HC : Calls P f args w fun e w' => ∃ v, e = .returned v ∧ R v w') (hv : ValsB e e2)
    (hQ : ∀ v a' w', R v w' → StE False N ((d, true, .val v) :: e2) noF a' w' → wpList P ops Q rest a' w') : wpList P ops Q (o :: rest) a w := by
  refine wpList_on hw ?_
  unfold Oper.wp
  rw [hr, Oper.upon_enter]
  refine HC.mono ?_
  rintro _ w' ⟨v, rfl, h0⟩
  show wpList P ops Q rest (a.put o.dst v) w'
  rw [hd]
  exact hQ v _ w' h0 ((h.vals (fok_no _ _) hv).put (Below.refl _ _) (by simpa using hdN) ⟨fun _ => rfl, fun e => by cases e⟩)
end
theorem cTest {m n : Int} {gb : Nat} {w : World} (hb : Blk w gb 28 #[.int .u64 n]) : Calls Try.prog 40 #[.int .u64 m, ptrV gb] w fun e w' => ∃ v, e = .returned v ∧ v = .bool (m == n) ∧ Below w.heap.size w w' := by
  refine (f40 (m := m) (n := n) w noF [.int .u64 m, ptrV gb] rfl (fun i v y h3 h4 => ?_) (fok_no _ _)).mono ?_
  · match i, h3, h4 with
    | 0, h3, h4 => simp at h3 h4; subst h3 h4; rfl
    | 1, h3, h4 =>
      simp at h3 h4; subst h3 h4
      refine ⟨gb, 0, [.int .u64 n], rfl, hb.lt, rfl, fun j hj => ⟨fun h => h, ?_⟩⟩
      obtain rfl : j = 0 := by simpa using hj
      rw [hb.cell]; simp
  · rintro _ w' ⟨v, rfl, h3, h4⟩
    exact ⟨v, rfl, h3, h4⟩
theorem kF : Flat (Lay.int .u64) kE := fun w F cs x => Flat.int .u64 w F cs x
theorem cFirst {l : List Int} {n : Int} {gb B : Nat} {w : World} {v : Value} (hl : l.length ≤ 1000000) (hr : w.ownsRow B 28 1 v l.length (l.flatMap kE)) (hb : Blk w gb 28 #[.int .u64 n]) : Calls Try.prog 57 #[v, .func (.func 40) #[] #[ptrV gb]] w fun e w' => ∃ v, e = .returned v ∧ v = .int .i64 (ixI l n) ∧ Below w.heap.size w w' := by
  refine (f57 (n := n) hl w noF [v, .func (.func 40) #[] #[ptrV gb]] rfl (fun i v y h3 h4 => ?_) (fok_no _ _)).mono ?_
  · match i, h3, h4 with
    | 0, h3, h4 => simp at h3 h4; subst h3 h4; exact sl_of_own kF hr (F := noF) fun _ _ _ _ h => h
    | 1, h3, h4 =>
      simp at h3 h4; subst h3 h4
      refine ⟨ptrV gb, rfl, gb, 0, [.int .u64 n], rfl, hb.lt, rfl, fun j hj => ⟨fun h => h, ?_⟩⟩
      obtain rfl : j = 0 := by simpa using hj
      rw [hb.cell]; simp
  · rintro _ w' ⟨v, rfl, h3, h4⟩
    exact ⟨v, rfl, h3, h4⟩
abbrev nq (x : Int) (m : Int) : Bool := m != x
theorem ix_none {l : List Int} {x : Int} (h : ixI l x = -1) : l.filter (nq x) = l := by
  have h1 : ¬ ixR l x < l.length := fun hh => by unfold ixI at h; rw [if_pos hh] at h; omega
  unfold ixR at h1
  rw [List.filter_eq_self]
  intro m hm
  have : l.takeWhile (fun m => !(m == x)) = l := by
    have h2 := (List.takeWhile_prefix (l := l) (fun m => !(m == x)))
    exact h2.eq_of_length (by have := h2.length_le; omega)
  have h3 := List.all_eq_true.1 (List.all_takeWhile (p := fun m => !(m == x)) (l := l)) m (by rw [this]; exact hm)
  simpa [bne] using h3
theorem ix_some {l : List Int} {x : Int} (h : ixI l x ≠ -1) : ∃ k : Nat, ixI l x = (k : Int) ∧ k < l.length ∧ (l.take (k + 1)).filter (nq x) = l.take k := by
  have h1 : ixR l x < l.length := Decidable.byContradiction fun hh => by unfold ixI at h; rw [if_neg hh] at h; exact h rfl
  refine ⟨ixR l x, by unfold ixI; rw [if_pos h1], h1, ?_⟩
  clear h
  unfold ixR at h1 ⊢
  induction l with
  | nil => simp at h1
  | cons m t ih =>
    rw [List.takeWhile_cons] at h1 ⊢
    by_cases e : m = x
    · simp [e]
    · have e' : (!(m == x)) = true := by simpa using e
      rw [if_pos e'] at h1 ⊢
      simp only [List.length_cons, List.take_succ_cons] at h1 ⊢
      rw [List.filter_cons, if_pos (by simpa [nq, bne] using e), ih (by omega)]
/-- What the row holds while names are taken out of it. -/
structure DK (w0 : World) (g gb : Nat) (c : Nat) (l : List Int) (x : Int) (j k : Nat) (cs : Array Value) (wr : World) : Prop where
  bl : Blk wr g 28 cs
  sz : cs.size = c
  lo : cs.toList.take k = ((l.take j).filter (nq x)).flatMap kE
  hi : ∀ q m, j ≤ q → l[q]? = some m → cs[q]? = some (.int .u64 m)
  kj : k ≤ j
  jn : j ≤ l.length
  bx : Blk wr gb 28 #[.int .u64 x]
  z : w0.grownBy wr (some g)
theorem kE_at {l : List Int} {q : Nat} {m : Int} (h : l[q]? = some m) : (l.flatMap kE)[q]? = some (.int .u64 m) := by
  have : l.flatMap kE = l.map (Value.int .u64) := by
    clear h
    induction l with
    | nil => rfl
    | cons a t ih => rw [List.flatMap_cons, List.map_cons, ih]; rfl
  rw [this, List.getElem?_map, h]; rfl
theorem map_kE (l : List Int) : l.flatMap kE = l.map (Value.int .u64) := by
  induction l with
  | nil => rfl
  | cons a t ih => rw [List.flatMap_cons, List.map_cons, ih]; rfl
theorem take_filter_succ {l : List Int} {j : Nat} {m x : Int} (h : l[j]? = some m) : (l.take (j + 1)).filter (nq x) = (l.take j).filter (nq x) ++ if m == x then [] else [m] := by
  obtain ⟨hj, rfl⟩ := List.getElem?_eq_some_iff.1 h
  rw [List.take_succ_eq_append_getElem hj, List.filter_append]
  congr 1
  by_cases e : l[j] = x
  · simp [e]
  · simp [e, bne]

end Go.Proofs.Ytbeeiecbbmiojaa.Y

/- Yte: slices.DeleteFunc at numbers -/
namespace Go.Proofs.Ytbeeiecbbmiojaa.Y
open Go.RowKit Go.ChangeShapes Go.WideShapes Go.ChangeAt Go.ChangeMaps Go.MapKept

theorem OnlyB.to_grown {w w' : World} {r : Option Nat} (h : OnlyB (fun i => r = some i) w w') : w.grownBy w' r := ⟨h.os, h.tape, h.output, h.size, fun i hi hn => h.block i hi fun e => hn e.symm⟩
theorem p_run2 {U : Prop} {ops : Array Oper} {Q : Exit → Act → World → Prop} {N d : Nat} {e : Env} {t : TypeId} {p : String} {af : Array Edge} {g : Option (Nat × Bool)} {c : Bool} {x x2 : Operand} {op : Op} {v v2 r : Value} (hx : OpdE e c x (.val v)) (hx2 : OpdE e c x2 (.val v2)) (hr : Run2 Try.prog ⟨some d, op, t, p, af, g⟩ x x2 v v2 r) (hs : ∀ s ∈ slotsOf x, s ∈ op.operands.toList.flatMap slotsOf) (hs2 : ∀ s ∈ slotsOf x2, s ∈ op.operands.toList.flatMap slotsOf) (hg : GdE ops e g c) : Pays U Try.prog ops Q N e ⟨some d, op, t, p, af, g⟩ (c, .val r) :=
  pVal hg fun e a w F hk => ⟨r, hr _ w (hx a w F (fun s h => hk s (hs s h)) e) (hx2 a w F (fun s h => hk s (hs2 s h)) e), rfl⟩
theorem zc28 (n : Nat) : (Builtin.zeroCells (Value.int .u64 0).cells n).toList = List.replicate n (.int .u64 0) := by
  unfold Builtin.zeroCells
  apply List.ext_getElem
  · simp [Value.cells]
  · intro i h1 h2
    simp [Value.cells, Nat.mod_one]
theorem zero28 (w : World) : (zeroValue 28).run Try.prog w = .ok (.int .u64 0) w := by go_simp
theorem clear_on {Q : Exit → Act → World → Prop} {N : Nat} {e e2 : Env} {a : Act} {w : World} {ops : Array Oper} {rest : List Oper} {o : Oper} {g k n c : Nat} {cs : Array Value} {x : Operand} (h : StE False N e noF a w) (ho : o.op = .call { callee := .builtin .clear, args := #[x], argTypes := #[29] }) (hd : o.dst = none) (hgd : o.guard = none)
    (kx : a.eval x = .slice (some ⟨g, k, none⟩) n c) (hB : Blk w g 28 cs) (hk : k + n ≤ cs.size) (hn : 0 < n) (hv : ValsB e e2)
    (hQ : ∀ w', Blk w' g 28 (over cs k (List.replicate n (.int .u64 0))) → w.grownBy w' (some g) → StE False N e2 noF a w' → wpList Try.prog ops Q rest a w') : wpList Try.prog ops Q (o :: rest) a w := by
  refine wpList_plain hgd fun K hK => ?_
  have hr := run_clear_rows (P := Try.prog) w 29 28 o.type _ Try.underlying29 zero28 g k n c (by rw [zc28]; intro u hu; rw [List.eq_of_mem_replicate hu]; rfl) hn
      (by rw [zc28]; intro j hj; simp at hj; rw [hB.cell, Array.getElem?_eq_getElem (by omega)]; rfl) (by rw [zc28]; intro j _; exact hB.frozen _)
  rw [zc28] at hr
  have G : w.grownBy (w.setCells g k (List.replicate n (.int .u64 0))) (some g) := only_setCells _ k (only_refl w (some g))
  have hfin := hQ _ (hB.setCells (List.replicate n (.int .u64 0)) k (by simp; omega)) G (h.vals (fok_no _ _) hv)
  unfold Oper.wp execOp
  simp only [ho, resolve, invoke, builtin, Sem.run_bind, Sem.run_pure, Result.andThen_ok, List.map_toArray, List.map_cons, List.map_nil, kx, hr]
  refine hK _ _ ?_
  rw [hd]
  exact hfin
section
variable {w0 wr wr' : World} {g gb c j k : Nat} {l : List Int} {x m : Int} {cs : Array Value}
theorem DK.below (h : DK w0 g gb c l x j k cs wr) (hb : Below wr.heap.size wr wr') : DK w0 g gb c l x j k cs wr' := ⟨h.bl.below hb h.bl.lt, h.sz, h.lo, h.hi, h.kj, h.jn, h.bx.below hb h.bx.lt, only_trans h.z (only_of_below hb _)⟩
theorem DK.skip (h : DK w0 g gb c l x j k cs wr) (hm : l[j]? = some m) (e : (m == x) = true) : DK w0 g gb c l x (j + 1) k cs wr :=
  ⟨h.bl, h.sz, by rw [take_filter_succ hm, if_pos e, List.append_nil]; exact h.lo, fun q m hq => h.hi q m (by omega), by have := h.kj; omega, (List.getElem?_eq_some_iff.1 hm).1, h.bx, h.z⟩
theorem over_take {cs : Array Value} {k : Nat} {v : Value} (h : k < cs.size) : (over cs k [v]).toList.take (k + 1) = cs.toList.take k ++ [v] := by
  unfold over
  rw [List.toList_toArray, List.take_append, List.take_of_length_le (by simp; omega)]
  have : min k cs.size = k := by omega
  simp [this]
theorem over_far {cs : Array Value} {k q : Nat} {v : Value} (h : k < q) (hk : k < cs.size) : (over cs k [v])[q]? = cs[q]? := by
  unfold over
  rw [List.getElem?_toArray, List.getElem?_append_right (by simp; omega)]
  simp
  have : min k cs.size = k := by omega
  rw [this, show k + 1 + (q - (k + 1)) = q by omega]
theorem DK.put (h : DK w0 g gb c l x j k cs wr) (hm : l[j]? = some m) (e : (m == x) = false) (hc : l.length ≤ c) (hne : g ≠ gb) (hB : Blk wr' g 28 (over cs (0 + k * 1) [.int .u64 m])) (hg : wr.grownBy wr' (some g)) : DK w0 g gb c l x (j + 1) (k + 1) (over cs k [.int .u64 m]) wr' := by
  have hj := (List.getElem?_eq_some_iff.1 hm).1
  have hkj := h.kj
  have hsz := h.sz
  rw [show 0 + k * 1 = k by omega] at hB
  refine ⟨hB, ?_, ?_, fun q m' hq hm' => ?_, by omega, hj, h.bx.grown hg (fun e => hne (by injection e with e; exact e.symm)), only_trans h.z hg⟩
  · unfold over; simp; omega
  · rw [over_take (by omega), take_filter_succ hm, e, List.flatMap_append, h.lo]; rfl
  · rw [over_far (by omega) (by omega)]
    exact h.hi q m' (by omega) hm'
end
theorem sz_28 : (Try.prog.info? 28).map (·.size) = some 1 := by kernel_rfl
theorem take_kE {l : List Int} {cur : Array Value} {k : Nat} (h : cur.toList.take l.length = l.flatMap kE) (hk : k ≤ l.length) : cur.toList.take k = (l.take k).flatMap kE := by
  rw [map_kE] at h ⊢
  rw [List.map_take, ← h, List.take_take, Nat.min_eq_left hk]
theorem at_kE {l : List Int} {cur : Array Value} {q : Nat} {m : Int} (h : cur.toList.take l.length = l.flatMap kE) (hm : l[q]? = some m) : cur[q]? = some (.int .u64 m) := by
  have hq := (List.getElem?_eq_some_iff.1 hm).1
  have := kE_at hm
  rw [← h, List.getElem?_take, if_pos hq] at this
  simpa using this
theorem tw_all {p : Int → Bool} : ∀ {l : List Int}, (∀ m ∈ l, p m = true) → l.takeWhile p = l
  | [], _ => rfl
  | m :: t, h => by rw [List.takeWhile_cons, if_pos (h m List.mem_cons_self), tw_all fun x hx => h x (List.mem_cons_of_mem _ hx)]
theorem ix_mem {l : List Int} {x : Int} (h : ixI l x ≠ -1) : x ∈ l := Classical.byContradiction fun hx => h (by
  unfold ixI
  rw [if_neg]
  unfold ixR
  rw [tw_all fun m hm => by simpa using fun e : m = x => hx (e ▸ hm)]
  exact Nat.lt_irrefl _)
theorem lt_filter {l : List Int} {x : Int} {cs : Array Value} {k : Nat} (hlo : cs.toList.take k = ((l.take l.length).filter (nq x)).flatMap kE) (hk : k ≤ cs.size) (hi : ixI l x ≠ -1) : k = (l.filter (nq x)).length ∧ k < l.length := by
  have h1 := congrArg List.length hlo
  rw [List.take_length, List.length_take, map_kE, List.length_map, Array.length_toList] at h1
  have h2 := (List.length_filter_lt_length_iff_exists (p := nq x) (l := l)).2 ⟨x, ix_mem hi, by simp⟩
  omega
theorem over_pre {cs : Array Value} {k : Nat} {zs : List Value} (h : k ≤ cs.size) : (over cs k zs).toList.take k = cs.toList.take k := by
  unfold over
  rw [List.toList_toArray, List.take_append_of_le_length (by simp; omega), List.take_append_of_le_length (by simp; omega), List.take_take, Nat.min_self]
theorem own_end {w : World} {B g c k : Nat} {l : List Int} {x : Int} {cs : Array Value} {zs : List Value} (hk : k = (l.filter (nq x)).length) (hlo : cs.toList.take k = ((l.take l.length).filter (nq x)).flatMap kE) (hsz : cs.size = c) (hBg : B ≤ g) (hcm : c ≤ maxLen) (hkc : k + zs.length ≤ c) (hB : Blk w g 28 (over cs k zs)) : w.ownsRow B 28 1 (.slice (some ⟨g, 0, none⟩) k c) (l.filter (nq x)).length ((l.filter (nq x)).flatMap kE) := by
  rw [List.take_length] at hlo
  refine ⟨by rw [map_kE]; simp, .inr ⟨g, c, over cs k zs, by rw [hk], hBg, hB, by omega, hcm, ?_, ?_⟩⟩
  · unfold over; simp; omega
  · rw [← hk, Nat.mul_one, over_pre (by omega)]
    exact hlo
set_option maxHeartbeats 800000 in
set_option maxRecDepth 100000 in
/-- Names are taken out of a row. -/
theorem cDel {l : List Int} {x : Int} {gb B : Nat} {w : World} {u : Value} (hl : l.length ≤ 1000000) (hr : w.ownsRow B 28 1 u l.length (l.flatMap kE)) (hb : Blk w gb 28 #[.int .u64 x]) (hbv : u.ownBlock ≠ some gb) : Calls Try.prog 38 #[u, .func (.func 40) #[] #[ptrV gb]] w fun e w' => ∃ v, e = .returned v ∧ w'.ownsRow B 28 1 v (l.filter (nq x)).length ((l.filter (nq x)).flatMap kE) ∧ w.grownBy w' u.ownBlock ∧ (v.ownBlock = u.ownBlock) := by
  have z0 : OnlyB (fun i => u.ownBlock = some i) w w := OnlyB.refl _ _
  go_enter Try.func38, Try.ntmps38
  refine wp_seq ?_
  refine flowC mixed (st0 (U := False) (N := 42) (e := [(0, true, .val (u)), (1, true, .val (.func (.func 40) #[] #[ptrV gb]))]) (F := noF) rfl rfl (fok_no _ _) ⟨⟨rfl, rfl⟩, ⟨⟨rfl, rfl⟩, True.intro⟩⟩) (by kernel_rfl) (by kernel_rfl) (cc rfl (p_assign g0 (oc _)) cn) fun a1 w1 b1 s1 => ?_
  have z1 := z0.below b1
  have hr := own_below hr b1
  have hb := hb.below b1 hb.lt
  refine wp_seq ?_
  refine wp_region_lit ?_
  refine with_st (s1.keep (sc 0 rfl (sc 1 rfl sn))) fun s1 => ?_
  refine chainK 2 (cc rfl (p_move g0 (od rfl id))
      (cc rfl (p_move g0 (od rfl id)) cn)) (by kernel_rfl) s1 fun a2 w2 b2 s2 => ?_
  have z2 := z1.below b2
  have hr := own_below hr b2
  have hb := hb.below b2 hb.lt
  show wpList _ _ _ (_ :: _) _ _
  refine callO (R := fun v w' => v = .int .i64 (ixI l x) ∧ Below w2.heap.size w2 w') [.tmp 8, .tmp 9] s2 (by simp [Region.wanted]) (fun _ _ => by kernel_rfl) rfl (by decide) (show Calls Try.prog 57 #[a2.tmps.getD 8 undef, a2.tmps.getD 9 undef] w2 _ from by rw [show a2.tmps.getD 8 undef = u from s2.get 8 rfl, show a2.tmps.getD 9 undef = _ from s2.get 9 rfl]; exact cFirst hl hr hb) (vv 0 rfl (vv 1 rfl vn)) fun v3 a3 w3 hR3 s3 => ?_
  obtain ⟨rfl, b3⟩ := hR3
  have z3 := z2.below b3
  have hr := own_below hr b3
  have hb := hb.below b3 hb.lt
  refine chainT (t := []) (cc rfl (p_assign g0 (od rfl id)) cn) (by kernel_rfl) s3 fun a4 w4 b4 s4 => wpList_done ?_
  have z4 := z3.below b4
  have hr := own_below hr b4
  have hb := hb.below b4 hb.lt
  refine wp_seq ?_
  refine wp_seq ?_
  refine flowC mixed (s4.keep (sc 0 rfl (sc 1 rfl (sc 5 rfl sn)))) (by kernel_rfl) (by kernel_rfl) (cc rfl (p_move g0 (od rfl id))
      (cc rfl (p_bin g0 (od rfl id) (oc _) b_eql_3) cn)) fun a5 w5 b5 s5 => ?_
  have z5 := z4.below b5
  have hr := own_below hr b5
  have hb := hb.below b5 hb.lt
  refine s5.cond 12 rfl (fun h12 => ?_) (fun h12 => ?_)
  · -- true
    have hi : ixI l x = -1 := by simpa using h12
    refine wp_seq ?_
    refine flowC mixed (s5.keep (sc 0 rfl (sc 1 rfl (sc 5 rfl sn)))) (by kernel_rfl) (by kernel_rfl) (cc rfl (p_move g0 (od rfl id))
        (cc rfl (p_assign g0 (od rfl id)) cn)) fun a6 w6 b6 s6 => ?_
    have z6 := z5.below b6
    have hr := own_below hr b6
    have hb := hb.below b6 hb.lt
    exact wp_ret (ret_o (fn := Try.f38) (R := fun v w' => w'.ownsRow B 28 1 v (l.filter (nq x)).length ((l.filter (nq x)).flatMap kE) ∧ w.grownBy w' u.ownBlock ∧ (v.ownBlock = u.ownBlock)) (v := u) s6 4 rfl rfl ⟨by rw [ix_none hi]; exact hr, z6.to_grown, rfl⟩)
  · -- false
    have hi : ixI l x ≠ -1 := by simpa using h12
    obtain ⟨k0, hk0, hkl, hf0⟩ := ix_some hi
    rw [hk0] at s5
    rcases hr with ⟨hr1, ⟨rfl, h0⟩ | ⟨g, c, cur, rfl, hBg, hg, hnc, hcm, hcs, htake⟩⟩
    · omega
    rw [Nat.mul_one] at hcs htake
    have hg : Blk _ g 28 cur := hg
    have hgb : g ≠ gb := fun e => hbv (by rw [e]; rfl)
    refine wp_skip ?_
    refine wp_seq ?_
    refine wp_seq ?_
    refine flowC mixed (s5.keep (sc 0 rfl (sc 1 rfl (sc 5 rfl sn)))) (by kernel_rfl) (by kernel_rfl) (cc rfl (p_move g0 (od rfl id))
        (cc rfl (p_bin g0 (od rfl id) (oc _) (inc_3 (by omega)))
        (cc rfl (p_assign g0 (od rfl id)) cn))) fun a7 w7 b7 s7 => ?_
    have z7 := z5.below b7
    have hg := hg.below b7 hg.lt
    have hb := hb.below b7 hb.lt
    refine wp_block ?_
    refine wp_loopK (fun n a wr => ∃ j k cs, n = l.length - j ∧ DK w g gb c l x j k cs wr ∧ StE False 42 [(0, true, .val (.slice (some ⟨g, 0, none⟩) l.length c)), (1, true, .val (.func (.func 40) #[] #[ptrV gb])), (5, true, .int .i64 ((k : Nat) : Int)), (6, true, .int .i64 ((j : Nat) : Int))] noF a wr) (l.length - (k0 + 1)) ⟨k0 + 1, k0, cur, rfl, ⟨hg, hcs, ?_, ?_, by omega, hkl, hb, z7.to_grown⟩, s7.to _ ⟨rfl, rfl, rfl, rfl, True.intro⟩⟩ fun n a8 w8 hI => ?_
    · rw [hf0, take_kE htake (by omega)]
    · intro q m hq hm
      exact at_kE htake hm
    obtain ⟨j, k, cs, rfl, hD, s8⟩ := hI
    have hz := hD.z
    refine wp_seq ?_
    refine wp_seq ?_
    refine flowC mixed (s8.keep (sc 0 rfl (sc 1 rfl (sc 5 rfl (sc 6 rfl sn))))) (by kernel_rfl) (by kernel_rfl) (cc rfl (p_move g0 (od rfl id))
        (cc rfl (p_move g0 (od rfl id))
        (cc rfl (p_lenV ln_29 g0 (od rfl id))
        (cc rfl (p_bin g0 (od rfl id) (od rfl id) b_lss_3) cn)))) fun a9 w9 b9 s9 => ?_
    skip
    have hD := hD.below b9
    refine s9.cond 19 rfl (fun h19 => ?_) (fun h19 => ?_)
    · -- true
      have hjl : j < l.length := by have := of_decide_eq_true h19; (try dsimp only at this); omega
      obtain ⟨m, em⟩ : ∃ m, l[j]? = some m := ⟨_, List.getElem?_eq_getElem hjl⟩
      have hkj := hD.kj
      refine wp_skip ?_
      refine wp_seq ?_
      refine wp_block ?_
      refine wp_seq ?_
      refine wp_region_lit ?_
      refine with_st (s9.keep (sc 0 rfl (sc 1 rfl (sc 5 rfl (sc 6 rfl sn))))) fun s9 => ?_
      refine chainK 3 (cc rfl (p_move g0 (od rfl id))
          (cc rfl (p_move g0 (od rfl id))
          (cc rfl (p_idxV ix_29 hjl g0 (od rfl id) (od rfl id)) cn))) (by kernel_rfl) s9 fun a10 w10 b10 s10 => ?_
      skip
      have hD := hD.below b10
      show wpList _ _ _ (_ :: _) _ _
      refine ldc_on (k := 0 + j * 1) (v := .int .u64 m) s10 (by simp [Region.wanted]) rfl (by decide) (fun ev w b off v h1 h2 => ld_28 ev w b off v h1 h2) (s10.get 24 rfl) hD.bl (by rw [show 0 + j * 1 = j by omega]; exact hD.hi j m (Nat.le_refl _) em) fun a11 s11 => ?_
      refine chainK 1 (cc rfl (p_assign g0 (od rfl id)) cn) (by kernel_rfl) s11 fun a12 w12 b12 s12 => ?_
      skip
      have hD := hD.below b12
      refine wpList_done ?_
      refine wp_seq ?_
      refine wp_region_lit ?_
      refine with_st (s12.keep (sc 0 rfl (sc 1 rfl (sc 5 rfl (sc 6 rfl (sc 7 rfl sn)))))) fun s12 => ?_
      refine chainK 2 (cc rfl (p_move g0 (od rfl id))
          (cc rfl (p_move g0 (od rfl id)) cn)) (by kernel_rfl) s12 fun a13 w13 b13 s13 => ?_
      skip
      have hD := hD.below b13
      show wpList _ _ _ (_ :: _) _ _
      refine callW (R := fun v w' => v = .bool (m == x) ∧ Below w13.heap.size w13 w') (args := #[.int .u64 m, ptrV gb]) s13 (by simp [Region.wanted]) (by rw [cv_40 _ _ _ (show a13.eval (.tmp 26) = .func (.func 40) #[] #[ptrV gb] from s13.get 26 rfl), show a13.eval (.tmp 27) = .int .u64 m from s13.get 27 rfl]) rfl (by decide) (cTest hD.bx) (vv 0 rfl (vv 1 rfl (vv 5 rfl (vv 6 rfl (vv 7 rfl vn))))) fun v14 a14 w14 hR14 s14 => ?_
      obtain ⟨rfl, b14⟩ := hR14
      have hD := hD.below b14
      refine chainK 1 (cc rfl (p_not g0 (od rfl id)) cn) (by kernel_rfl) s14 fun a15 w15 b15 s15 => ?_
      skip
      have hD := hD.below b15
      refine wpList_done ?_
      refine s15.cond 29 rfl (fun h29 => ?_) (fun h29 => ?_)
      · -- true
        have hmx : (m == x) = false := by rw [Bool.not_eq_true'] at h29; exact h29
        refine wp_seq ?_
        refine wp_region_lit ?_
        refine with_st (s15.keep (sc 0 rfl (sc 1 rfl (sc 5 rfl (sc 6 rfl (sc 7 rfl sn)))))) fun s15 => ?_
        refine chainK 4 (cc rfl (p_move g0 (od rfl id))
            (cc rfl (p_move g0 (od rfl id))
            (cc rfl (p_move g0 (od rfl id))
            (cc rfl (p_idxV ix_29 (Nat.lt_of_le_of_lt hkj hjl) g0 (od rfl id) (od rfl id)) cn)))) (by kernel_rfl) s15 fun a16 w16 b16 s16 => ?_
        skip
        have hD := hD.below b16
        show wpList _ _ _ (_ :: _) _ _
        refine cells_on (vs := [.int .u64 m]) s16 rfl rfl rfl (s16.get 33 rfl) (s16.get 32 rfl) rfl hD.bl (by have := hD.sz; simp; omega) sz_28 (fun u hu => by rw [List.mem_singleton.1 hu]; rfl) (vv 0 rfl (vv 1 rfl (vv 5 rfl (vv 6 rfl vn)))) fun a17 w17 hB17 g17 s17 => ?_
        have hD := hD.put em hmx hnc hgb hB17 g17
        refine wpList_done ?_
        refine flowT (s17.keep (sc 0 rfl (sc 1 rfl (sc 5 rfl (sc 6 rfl sn))))) (by kernel_rfl) (cc rfl (p_move g0 (od rfl id))
            (cc rfl (p_bin g0 (od rfl id) (oc _) (inc_3 (by omega)))
            (cc rfl (p_assign g0 (od rfl id)) cn))) fun a18 w18 b18 s18 => ?_
        skip
        have hD := hD.below b18
        refine flowT (s18.keep (sc 0 rfl (sc 1 rfl (sc 5 rfl (sc 6 rfl (sc 34 rfl (sc 35 rfl sn))))))) (by kernel_rfl) (cc rfl (p_move g0 (od rfl id))
            (cc rfl (p_bin g0 (od rfl id) (oc _) (inc_3 (by omega)))
            (cc rfl (p_assign g0 (od rfl id)) cn))) fun a19 w19 b19 s19 => ?_
        skip
        have hD := hD.below b19
        exact ⟨_, by omega, j + 1, k + 1, _, rfl, hD, s19.to _ ⟨rfl, rfl, rfl, rfl, True.intro⟩⟩
      · -- false
        have hmx : (m == x) = true := by rw [Bool.not_eq_false'] at h29; exact h29
        have hD := hD.skip em hmx
        refine wp_skip ?_
        refine flowT (s15.keep (sc 0 rfl (sc 1 rfl (sc 5 rfl (sc 6 rfl (sc 7 rfl (sc 28 rfl (sc 29 rfl sn)))))))) (by kernel_rfl) (cc rfl (p_move g0 (od rfl id))
            (cc rfl (p_bin g0 (od rfl id) (oc _) (inc_3 (by omega)))
            (cc rfl (p_assign g0 (od rfl id)) cn))) fun a20 w20 b20 s20 => ?_
        skip
        have hD := hD.below b20
        exact ⟨_, by omega, j + 1, k, _, rfl, hD, s20.to _ ⟨rfl, rfl, rfl, rfl, True.intro⟩⟩
    · -- false
      obtain rfl : j = l.length := by have h1 := of_decide_eq_false h19; have h2 := hD.jn; (try dsimp only at h1); omega
      refine wp_exit ?_
      refine wp_seq ?_
      have hkf : k = _ ∧ k < l.length := lt_filter hD.lo (by have := hD.sz; have := hD.kj; omega) hi
      have hkn := hkf.2
      refine wp_region_lit ?_
      refine with_st (s9.keep (sc 0 rfl (sc 5 rfl sn))) fun s9 => ?_
      refine chainK 3 (cc rfl (p_move g0 (od rfl id))
          (cc rfl (p_move g0 (od rfl id))
          (cc rfl (p_run2 (od rfl id) (od rfl id) (sl_lo hkn hnc) (fun s h => by simp [Op.operands, h]) (fun s h => by simp [Op.operands, h]) g0) cn))) (by kernel_rfl) s9 fun a21 w21 b21 s21 => ?_
      skip
      have hD := hD.below b21
      show wpList _ _ _ (_ :: _) _ _
      refine clear_on s21 rfl rfl rfl (s21.get 38 rfl) hD.bl (by have := hD.sz; omega) (by omega) (vv 0 rfl (vv 5 rfl vn)) fun w22 hB g22 s22 => ?_
      have hz := only_trans hD.z g22
      refine wpList_done ?_
      refine wp_seq ?_
      refine flowC mixed (s22.keep (sc 0 rfl (sc 5 rfl sn))) (by kernel_rfl) (by kernel_rfl) (cc rfl (p_move g0 (od rfl id))
          (cc rfl (p_move g0 (od rfl id))
          (cc rfl (p_run2 (od rfl id) (od rfl id) (sl_hi (Nat.le_of_lt hkn) hnc) (fun s h => by simp [Op.operands, h]) (fun s h => by simp [Op.operands, h]) g0)
          (cc rfl (p_assign g0 (od rfl id)) cn)))) fun a23 w23 b23 s23 => ?_
      skip
      have hB := hB.below b23 hB.lt
      have hz := only_trans hz (only_of_below b23 _)
      exact wp_ret (ret_o (fn := Try.f38) (R := fun v w' => w'.ownsRow B 28 1 v (l.filter (nq x)).length ((l.filter (nq x)).flatMap kE) ∧ w.grownBy w' (Value.slice (some ⟨g, 0, none⟩) l.length c).ownBlock ∧ (v.ownBlock = (Value.slice (some ⟨g, 0, none⟩) l.length c).ownBlock)) (v := .slice (some ⟨g, 0, none⟩) k c) s23 4 rfl rfl ⟨own_end hkf.1 hD.lo hD.sz hBg hcm (by simp; omega) hB, hz, rfl⟩)

end Go.Proofs.Ytbeeiecbbmiojaa.Y

/- Ytr: what Remove needs -/
namespace Go.Proofs.Ytbeeiecbbmiojaa.Y
open Go.RowKit Go.ChangeShapes Go.WideShapes Go.ChangeAt Go.ChangeMaps Go.MapKept

section
variable {d : Nat} {t : TypeId} {p : String} {af : Array Edge} {g : Option (Nat × Bool)} {x x2 : Operand}
theorem bx_28 {n : Int} : ∀ (ev : Operand → Value) (w : World), ev x = .int .u64 n → (execOp ev ⟨some d, .box 28 x, t, p, af, g⟩).run Try.prog w = .ok (.value (.pointer (some ⟨w.heap.size, 0, none⟩))) (w.alloc (.cells #[.int .u64 n] 28)) := fun ev w h1 => by go_simp
theorem bs_49 {b : Nat} : ∀ (ev : Operand → Value) (w : World), ev x = .pointer (some ⟨b, 0, none⟩) → (execOp ev ⟨some d, .buildSlice 49 1 #[(0, x)], t, p, af, g⟩).run Try.prog w = .ok (.value (.slice (some ⟨w.heap.size, 0, none⟩) 1 1)) (w.alloc (.cells #[.pointer (some ⟨b, 0, none⟩)] 27)) := fun ev w h1 => by go_simp
theorem ix_49 : IndexRun Try.prog ⟨some d, .indexAddr 49 x x2, t, p, af, g⟩ x x2 1 := fun ev w b off len cap i h1 h2 h3 => by
  have hd : decide ((0 : Int) ≤ i) = true := by simp
  have hd2 : decide ((i : Int) < len) = true := by simp; omega
  go_simp
end
theorem Try.info27 : (Try.prog.info? 27).map (fun i => (i.zero, i.size, i.bytes)) = some (some (.pointer none), 1, 8) := by kernel_rfl
theorem Try.underlying49 : Try.prog.underlying 49 = some (.slice 27) := by kernel_rfl
/-- A slice of pointers of which one leads to an object. -/
def Sym.rowO (b len cap i g : Nat) (cs ds : Array Value) : Sym := ⟨fun w F v => v = .slice (some ⟨b, 0, none⟩) len cap ∧ i < len ∧ Blk w b 27 cs ∧ cs[i]? = some (.pointer (some ⟨g, 0, none⟩)) ∧ Blk w g 48 ds ∧ (∀ k, ¬ F (b, k)) ∧ ∀ k, ¬ F (g, k), by
  rintro w w' F F' v ⟨e, hi, h1, h2, h3, h4, h5⟩ hk hF
  exact ⟨e, hi, (hk.whole b h1.lt h4).trans h1, h2, (hk.whole g h3.lt h5).trans h3, fun k hf => h4 k (hF (b, k) h1.lt hf), fun k hf => h5 k (hF (g, k) h3.lt hf)⟩⟩
/-- A pointer to that place. -/
def Sym.ptrO (b i g : Nat) (cs ds : Array Value) : Sym := ⟨fun w F v => v = .pointer (some ⟨b, 0 + i * 1, none⟩) ∧ Blk w b 27 cs ∧ cs[i]? = some (.pointer (some ⟨g, 0, none⟩)) ∧ Blk w g 48 ds ∧ (∀ k, ¬ F (b, k)) ∧ ∀ k, ¬ F (g, k), by
  rintro w w' F F' v ⟨e, h1, h2, h3, h4, h5⟩ hk hF
  exact ⟨e, (hk.whole b h1.lt h4).trans h1, h2, (hk.whole g h3.lt h5).trans h3, fun k hf => h4 k (hF (b, k) h1.lt hf), fun k hf => h5 k (hF (g, k) h3.lt hf)⟩⟩
section
variable {U : Prop} {ops : Array Oper} {Q : Exit → Act → World → Prop} {N d : Nat} {e : Env} {t : TypeId} {p : String} {af : Array Edge} {gd : Option (Nat × Bool)} {c : Bool} {x x2 : Operand} {b len cap i g : Nat} {cs ds : Array Value}
theorem p_idxO (hg : GdE ops e gd c) (hx : OpdE e c x (.rowO b len cap i g cs ds)) (hx2 : OpdE e c x2 (.int .i64 i)) : Pays U Try.prog ops Q N e ⟨some d, .indexAddr 49 x x2, t, p, af, gd⟩ (c, .ptrO b i g cs ds) :=
  pVal hg fun e a w F hk => by
    have h := hx a w F (fun s hs => hk s (by simp [Op.operands, hs])) e
    exact ⟨_, ix_49 _ w b 0 len cap i h.1 (hx2 a w F (fun s hs => hk s (by simp [Op.operands, hs])) e) h.2.1, rfl, h.2.2⟩
theorem p_ldO (hg : GdE ops e gd c) (hx : OpdE e c x (.ptrO b i g cs ds)) : Pays U Try.prog ops Q N e ⟨some d, .load 27 x, t, p, af, gd⟩ (c, .bp g 48 ds 0) :=
  pVal hg fun e a w F hk => by
    have h := hx a w F (fun s hs => hk s (by simp [Op.operands, hs])) e
    exact ⟨_, ld_27 _ w b (0 + i * 1) _ h.1 (by rw [h.2.1.cell, show 0 + i * 1 = i by omega]; exact h.2.2.1), rfl, h.2.2.2.1, h.2.2.2.2.2⟩
theorem p_clo {u : Value} (hg : GdE ops e gd c) (hx : OpdE e c x (.val u)) : Pays U Try.prog ops Q N e ⟨some d, .makeFunc (.func 40) #[] #[x], t, p, af, gd⟩ (c, .val (.func (.func 40) #[] #[u])) :=
  p_run1 hx (fun ev w h1 => mk_40 ev w u h1) (fun s h => by simp [Op.operands, h]) hg
end
theorem clone_own {l : List Int} {B : Nat} {w : World} {v : Value} (hl : l.length ≤ 1000000) (hr : w.ownsRow B 28 1 v l.length (l.flatMap kE)) : Calls Try.prog 39 #[v] w fun e w' => ∃ u, e = .returned u ∧ w'.ownsRow w.heap.size 28 1 u l.length (l.flatMap kE) ∧ Below w.heap.size w w' := by
  obtain ⟨A, cp, e1, h2, _⟩ := reads_of_sl kF (sl_of_own kF hr (F := noF) fun _ _ _ _ h => h)
  rw [e1]
  exact clone_anyU A cp l.length _ w.heap.size w h2 (Nat.le_refl _) hl (kF.ones l)
theorem grown_below {w w1 w2 : World} {B : Nat} {r : Option Nat} (h : Below B w w1) (hB : B ≤ w.heap.size) (hg : w1.grownBy w2 r) (hr : ∀ x, r = some x → B ≤ x) : Below B w w2 := h.grown hg (Nat.le_trans hB h.size) hr
theorem out_one {w : World} {B b g : Nat} (h : Blk w b 27 #[.pointer (some ⟨g, 0, none⟩)]) (hB : B ≤ b) : w.ownsRow B 27 1 (.slice (some ⟨b, 0, none⟩) 1 1) [g].length ([g].flatMap pE) := ⟨rfl, .inr ⟨b, 1, _, rfl, hB, h, Nat.le_refl _, by unfold maxLen; omega, rfl, rfl⟩⟩
/-- A step of what goes. -/
theorem remL_step {ob : Nat → Option TO} {f : Nat} {tm tm' : List (Int × Nat)} {out out' : List Nat} {i : Nat} (h : remL ob f tm out i = some (tm', out')) : (out.length ≤ i ∧ tm' = tm ∧ out' = out) ∨ ∃ f' g o gs, f = f' + 1 ∧ out[i]? = some g ∧ ob g = some o ∧ pops (delT tm o.name) o.kids = some gs ∧ remL ob f' (delT tm o.name) (out ++ gs) (i + 1) = some (tm', out') := by
  cases f with
  | zero => cases h
  | succ f =>
    rw [remL] at h
    cases hg : out[i]? with
    | none =>
      rw [hg] at h
      simp only [Option.some.injEq, Prod.mk.injEq] at h
      exact .inl ⟨List.getElem?_eq_none_iff.1 hg, h.1.symm, h.2.symm⟩
    | some g =>
      rw [hg] at h
      cases ho : ob g with
      | none => simp [ho] at h
      | some o =>
        simp only [ho] at h
        cases hp : pops (delT tm o.name) o.kids with
        | none => simp [hp] at h
        | some gs => simp only [hp] at h; exact .inr ⟨f, g, o, gs, rfl, rfl, ho, hp, h⟩
theorem pops_at : ∀ {tm : List (Int × Nat)} {ks : List Int} {gs : List Nat}, pops tm ks = some gs → gs.length = ks.length ∧ ∀ (j : Nat) (k : Int), ks[j]? = some k → ∃ g, tm.lookup k = some g ∧ gs[j]? = some g
  | _, [], gs, h => by
    simp [pops] at h
    subst h
    exact ⟨rfl, fun j k h => by simp at h⟩
  | tm, k :: ks, gs, h => by
    rw [pops] at h
    cases hk : tm.lookup k with
    | none => rw [hk] at h; cases h
    | some g =>
      cases hp : pops tm ks with
      | none => rw [hk, hp] at h; cases h
      | some gs' =>
        rw [hk, hp] at h
        injection h with h
        subst h
        obtain ⟨h1, h2⟩ := pops_at hp
        refine ⟨by simp [h1], fun j k' hj => ?_⟩
        cases j with
        | zero => simp at hj; subst hj; exact ⟨g, hk, rfl⟩
        | succ j => simp at hj; obtain ⟨g2, a1, a2⟩ := h2 j k' hj; exact ⟨g2, a1, by simpa using a2⟩
theorem remL_len {ob : Nat → Option TO} : ∀ {f : Nat} {tm tm' : List (Int × Nat)} {out out' : List Nat} {i : Nat}, remL ob f tm out i = some (tm', out') → out.length ≤ out'.length
  | 0, _, _, _, _, _, h => by cases h
  | f + 1, tm, tm', out, out', i, h => by
    rcases remL_step h with ⟨_, _, e⟩ | ⟨f', g, o, gs, e, _, _, _, h5⟩
    · rw [e]; exact Nat.le_refl _
    · obtain rfl : f' = f := by omega
      have := remL_len h5
      rw [List.length_append] at this
      omega
theorem map_pE (l : List Nat) : l.flatMap pE = l.map ptrV := by
  induction l with
  | nil => rfl
  | cons a t ih => rw [List.flatMap_cons, List.map_cons, ih]; rfl
theorem at_pE {l : List Nat} {cur : Array Value} {q g : Nat} (h : cur.toList.take (l.length * 1) = l.flatMap pE) (hm : l[q]? = some g) : cur[q]? = some (ptrV g) := by
  have hq := (List.getElem?_eq_some_iff.1 hm).1
  have h2 : (l.flatMap pE)[q]? = some (ptrV g) := by rw [map_pE, List.getElem?_map, hm]; rfl
  rw [← h, List.getElem?_take, if_pos (by omega)] at h2
  simpa using h2
theorem p_lenW {U : Prop} {ops : Array Oper} {Q : Exit → Act → World → Prop} {N d : Nat} {e : Env} {t : TypeId} {p : String} {af : Array Edge} {g : Option (Nat × Bool)} {c : Bool} {x : Operand} {v : Value} {n : Nat} {u : TypeId} (hv : ∃ A cp, v = .slice A n cp) (hr : LenRun Try.prog ⟨some d, .call { callee := .builtin .len, args := #[x], argTypes := #[u] }, t, p, af, g⟩ x) (hg : GdE ops e g c) (hx : OpdE e c x (.val v)) : Pays U Try.prog ops Q N e ⟨some d, .call { callee := .builtin .len, args := #[x], argTypes := #[u] }, t, p, af, g⟩ (c, .int .i64 n) := by
  obtain ⟨A, cp, rfl⟩ := hv
  exact p_lenV hr hg hx
theorem pops_take {α : Type} {gs : List α} {j : Nat} {g : α} (h : gs[j]? = some g) : gs.take (j + 1) = gs.take j ++ [g] := by
  obtain ⟨hj, rfl⟩ := List.getElem?_eq_some_iff.1 h
  rw [List.take_succ_eq_append_getElem hj]

end Go.Proofs.Ytbeeiecbbmiojaa.Y
