/- Yscr: Script at the example -/
import Derived.Test.YtihddficgpjgpaaZYcfgl
import Derived.Test.YtihddficgpjgpaaZYfld
import Derived.Test.YtihddficgpjgpaaZMRd
import Derived.Test.YtihddficgpjgpaaZMLx
namespace Go.Proofs.Ytihddficgpjgpaa.Y
open Go.RowKit Go.ChangeShapes Go.WideShapes Go.ChangeAt
/-- An act of a script. -/
abbrev actL : Lay (Int × Int × List Int) := (Lay.int .i64).pr ((Lay.int .i64).pr (Lay.sl byL))
theorem pt118_0 : Part actL (Lay.int .i64) 0 (fun x => x.1) := Part.fst (Part.self _)
theorem pt118_2 : Part actL (Lay.sl byL) 2 (fun x => x.2.2) := Part.snd (Part.snd (Part.self _))
section
variable {d : Nat} {t : TypeId} {p : String} {af : Array Edge} {g : Option (Nat × Bool)} {x x2 x3 x4 : Operand}
theorem fa_118_0 : FieldRun Try.prog ⟨some d, .fieldAddr 118 x 0, t, p, af, g⟩ x 0 := fun ev w b off h1 => by go_simp
theorem fa_118_2 : FieldRun Try.prog ⟨some d, .fieldAddr 118 x 2, t, p, af, g⟩ x 2 := fun ev w b off h1 => by go_simp
theorem ix_115 : IndexRun Try.prog ⟨some d, .indexAddr 115 x x2, t, p, af, g⟩ x x2 3 := fun ev w b off len cap i h1 h2 h3 => by
  have hd : decide ((0 : Int) ≤ i) = true := by simp
  have hd2 : decide ((i : Int) < len) = true := by simp; omega
  go_simp
theorem ln_115 : LenRun Try.prog ⟨some d, .call { callee := .builtin .len, args := #[x], argTypes := #[115] }, t, p, af, g⟩ x := fun ev w A len cap h1 => by go_simp
theorem cv_5_3 {a : Int} : Run1 Try.prog ⟨some d, .convert 5 3 x, t, p, af, g⟩ x (.int .u8 a) (.int .i64 (IntKind.i64.wrap a)) := fun ev w h1 => by go_simp
theorem shr20 : Run2 Try.prog ⟨some d, .binOp .shr 5 x x2 26, t, p, af, g⟩ x x2 (.int .u8 3) (.int .u64 2) (.int .u8 0) := fun ev w h1 h2 => by go_simp
theorem and20 : Run2 Try.prog ⟨some d, .binOp .and 5 x x2 5, t, p, af, g⟩ x x2 (.int .u8 3) (.int .u8 3) (.int .u8 3) := fun ev w h1 h2 => by go_simp; try rfl
theorem sl_lohi : ∀ (ev : Operand → Value) (w : World) (A : Option Addr) (len cap k m : Nat), ev x = .slice A len cap → ev x2 = .int .i64 k → ev x3 = .int .i64 m → k ≤ m → m ≤ cap → (execOp ev ⟨some d, .slice 22 x (some x2) (some x3) none, t, p, af, g⟩).run Try.prog w = .ok (.value (.slice (if cap = k then A else A.map (fun a => a.add k)) (m - k) (cap - k))) w := fun ev w A len cap k m h1 h2 h3 h4 h5 => by
  have e1 : (0 : Int) ≤ (k : Int) ∧ (k : Int) ≤ (m : Int) := by omega
  have e2 : (0 : Int) ≤ (m : Int) ∧ (m : Int) ≤ (cap : Int) := by omega
  go_simp
theorem bd118 {a b : Int} {A : Option Addr} {n m : Nat} : ∀ (ev : Operand → Value) (w : World), ev x = .int .i64 a → ev x2 = .int .i64 b → ev x3 = .slice A n m → (execOp ev ⟨some d, .build 118 #[(0, x), (1, x2), (2, x3)], t, p, af, g⟩).run Try.prog w = .ok (.value (.agg #[.int .i64 a, .int .i64 b, .slice A n m])) w := fun ev w h1 h2 h3 => by go_simp
theorem bs_115 : BsRun Try.prog ⟨some d, .buildSlice 115 1 #[(0, x)], t, p, af, g⟩ x 3 118 := fun ev w cs h1 h2 => by
  obtain ⟨cs⟩ := cs
  match cs, h2 with
  | [a, b, c], _ => go_simp
theorem bs_22_3 {z z2 z3 : Int} : ∀ (ev : Operand → Value) (w : World), ev x = .int .u8 z → ev x2 = .int .u8 z2 → ev x3 = .int .u8 z3 → (execOp ev ⟨some d, .buildSlice 22 3 #[(0, x), (1, x2), (2, x3)], t, p, af, g⟩).run Try.prog w = .ok (.value (.slice (some ⟨w.heap.size, 0, none⟩) 3 3)) (w.alloc (.cells #[.int .u8 z, .int .u8 z2, .int .u8 z3] 5)) := fun ev w h1 h2 h3 => by go_simp
theorem bd64 {b : Int} : ∀ (ev : Operand → Value) (w : World), ev x = .int .i64 b → (execOp ev ⟨some d, .build 64 #[(1, x)], t, p, af, g⟩).run Try.prog w = .ok (.value (.agg #[.int .u64 0, .int .i64 b])) w := fun ev w h1 => by go_simp
theorem bs_53 : BsRun Try.prog ⟨some d, .buildSlice 53 1 #[(0, x)], t, p, af, g⟩ x 2 64 := fun ev w cs h1 h2 => by
  obtain ⟨cs⟩ := cs
  match cs, h2 with
  | [a, b], _ => go_simp
theorem bd59_3 {a b : Int} {A : Option Addr} {n m : Nat} : ∀ (ev : Operand → Value) (w : World), ev x = .int .i64 a → ev x2 = .int .i64 b → ev x3 = .slice A n m → (execOp ev ⟨some d, .build 59 #[(0, x), (1, x2), (3, x3)], t, p, af, g⟩).run Try.prog w = .ok (.value (.agg #[.int .i64 a, .int .i64 b, .int .i64 0, .slice A n m, .slice none 0 0])) w := fun ev w h1 h2 h3 => by go_simp
theorem bd59_4 {a b c : Int} {A : Option Addr} {n m : Nat} : ∀ (ev : Operand → Value) (w : World), ev x = .int .i64 a → ev x2 = .int .i64 b → ev x3 = .int .i64 c → ev x4 = .slice A n m → (execOp ev ⟨some d, .build 59 #[(0, x), (1, x2), (2, x3), (3, x4)], t, p, af, g⟩).run Try.prog w = .ok (.value (.agg #[.int .i64 a, .int .i64 b, .int .i64 c, .slice A n m, .slice none 0 0])) w := fun ev w h1 h2 h3 h4 => by go_simp
end
/-- A configuration with no object in it. -/
abbrev cf0L : Lay (Int × Int × Int × List (Int × Int) × Unit) := (Lay.int .i64).pr ((Lay.int .i64).pr ((Lay.int .i64).pr ((Lay.sl slotL).pr (Lay.exact [.slice none 0 0] (fun u hu => by rw [List.mem_singleton.1 hu]; rfl)))))
theorem cf0_cf {w : World} {F : Cell → Prop} {cs : List Value} {a b c : Int} {l : List (Int × Int)} (h : cf0L.on w F cs (a, b, c, l, ())) : cfL.on w F cs ⟨a, b, c, l, []⟩ := by
  obtain ⟨c1, _, rfl, h1, c2, _, rfl, h2, c3, _, rfl, h3, c4, c5, rfl, h4, h5⟩ := h
  exact ⟨c1, _, rfl, h1, c2, _, rfl, h2, c3, _, rfl, h3, c4, c5, rfl, h4, none, 0, h5, fun h => absurd h (by simp), Nat.le_refl _⟩
section
variable {U : Prop} {ops : Array Oper} {Q : Exit → Act → World → Prop} {N : Nat} {e : Env} {F F0 : Cell → Prop} {a : Act} {w : World} {d : Nat} {t : TypeId} {p : String} {af : Array Edge} {g : Option (Nat × Bool)} {c : Bool} {x x2 x3 x4 : Operand}
theorem sl_in {α : Type} {L : Lay α} {l : List α} {v : Value} (h : (Sym.one (Lay.sl L) l).on w F v) : ∃ A c, v = .slice A l.length c := by
  obtain ⟨A, c, e, _⟩ := h
  simp only [List.cons.injEq, and_true] at e
  exact ⟨A, c, e⟩
theorem p_slLH {l : List Int} {k m : Nat} (hk : k ≤ m) (hm : m ≤ l.length) (hg : GdE ops e g c) (hx : OpdE e c x (.by l)) (hx2 : OpdE e c x2 (.int .i64 k)) (hx3 : OpdE e c x3 (.int .i64 m)) : Pays U Try.prog ops Q N e ⟨some d, .slice 22 x (some x2) (some x3) none, t, p, af, g⟩ (c, .by ((l.drop k).take (m - k))) :=
  pVal hg fun e a w F hk' => by
    obtain ⟨A, cp, e1, h2, h3⟩ := hx a w F (fun s hs => hk' s (by simp [Op.operands, hs])) e
    have e2 := hx2 a w F (fun s hs => hk' s (by simp [Op.operands, hs])) e
    have e3 := hx3 a w F (fun s hs => hk' s (by simp [Op.operands, hs])) e
    simp only [List.cons.injEq, and_true] at e1
    have hl : ((l.drop k).take (m - k)).length = m - k := by simp; omega
    refine ⟨_, sl_lohi _ w A _ _ k m e1 e2 e3 hk (by omega), _, cp - k, by rw [hl], fun hp => ?_, by omega⟩
    obtain ⟨b, off, rfl, h4, h6⟩ := h2 (by omega)
    rw [if_neg (by omega)]
    refine ⟨b, off + k, by simp [add_none], h4, fun i hi => ?_⟩
    have hi' : k + i < l.length := by omega
    obtain ⟨cs, h7, h8⟩ := h6 (k + i) hi'
    refine ⟨cs, by rw [List.getElem_take, List.getElem_drop]; exact h7, fun j hj => ?_⟩
    have := h8 j hj
    rwa [show off + (k + i) * byL.n + j = off + k + i * byL.n + j by show off + (k + i) * 1 + j = off + k + i * 1 + j; omega] at this
theorem p_bd118 {n m : Int} {l : List Int} (hg : GdE ops e g c) (hx : OpdE e c x (.int .i64 n)) (hx2 : OpdE e c x2 (.int .i64 m)) (hx3 : OpdE e c x3 (.by l)) : Pays U Try.prog ops Q N e ⟨some d, .build 118 #[(0, x), (1, x2), (2, x3)], t, p, af, g⟩ (c, .st actL (n, m, l)) :=
  pVal hg fun e a w F hk => by
    have h3 := hx3 a w F (fun s hs => hk s (by simp [Op.operands, hs])) e
    obtain ⟨A, cp, e3⟩ := sl_in h3
    refine ⟨_, bd118 _ w (hx a w F (fun s hs => hk s (by simp [Op.operands, hs])) e) (hx2 a w F (fun s hs => hk s (by simp [Op.operands, hs])) e) e3, [.int .i64 n, .int .i64 m, .slice A l.length cp], rfl, [_], [_, _], rfl, rfl, [_], [_], rfl, rfl, ?_⟩
    rw [e3] at h3
    exact h3
theorem p_lits3 {z z2 z3 : Int} (hg : GdE ops e g c) (hx : OpdE e c x (.int .u8 z)) (hx2 : OpdE e c x2 (.int .u8 z2)) (hx3 : OpdE e c x3 (.int .u8 z3)) : Pays U Try.prog ops Q N e ⟨some d, .buildSlice 22 3 #[(0, x), (1, x2), (2, x3)], t, p, af, g⟩ (c, .by [z, z2, z3]) :=
  pOf hg fun e a w F hF hk R hR => by
    have h1 := hx a w F (fun s hs => hk s (by simp [Op.operands, hs])) e
    have h2 := hx2 a w F (fun s hs => hk s (by simp [Op.operands, hs])) e
    have h3 := hx3 a w F (fun s hs => hk s (by simp [Op.operands, hs])) e
    have hb : Below w.heap.size w (w.alloc (.cells #[.int .u8 z, .int .u8 z2, .int .u8 z3] 5)) := (Below.refl _ _).alloc (Nat.le_refl _) _
    have hB := Blk.new w 5 #[.int .u8 z, .int .u8 z2, .int .u8 z3]
    have hl : (Sym.lits 3 5 [.int .u8 z, .int .u8 z2, .int .u8 z3]).on (w.alloc (.cells #[.int .u8 z, .int .u8 z2, .int .u8 z3] 5)) F (.slice (some ⟨w.heap.size, 0, none⟩) 3 3) := ⟨w.heap.size, rfl, hB, fun o h => Nat.lt_irrefl _ (hF.lt _ h)⟩
    unfold Oper.wp
    rw [bs_22_3 _ w h1 h2 h3]
    exact hR _ _ hb (lits_sl (l := [z, z2, z3]) hl)
theorem p_bd64 {n : Int} (hg : GdE ops e g c) (hx : OpdE e c x (.int .i64 n)) : Pays U Try.prog ops Q N e ⟨some d, .build 64 #[(1, x)], t, p, af, g⟩ (c, .st slotL (0, n)) :=
  pVal hg fun e a w F hk => ⟨_, bd64 _ w (hx a w F (fun s hs => hk s (by simp [Op.operands, hs])) e), [.int .u64 0, .int .i64 n], rfl, [_], [_], rfl, rfl, rfl⟩
theorem p_bd59_3 {n m : Int} {l : List (Int × Int)} {y : Sym} (hg : GdE ops e g c) (hx : OpdE e c x (.int .i64 n)) (hx2 : OpdE e c x2 (.int .i64 m)) (hx3 : OpdE e c x3 (.both y (.one (Lay.sl slotL) l))) : Pays U Try.prog ops Q N e ⟨some d, .build 59 #[(0, x), (1, x2), (3, x3)], t, p, af, g⟩ (c, .st cf0L (n, m, 0, l, ())) :=
  pVal hg fun e a w F hk => by
    have h3 := (hx3 a w F (fun s hs => hk s (by simp [Op.operands, hs])) e).2
    obtain ⟨A, cp, e3⟩ := sl_in h3
    refine ⟨_, bd59_3 _ w (hx a w F (fun s hs => hk s (by simp [Op.operands, hs])) e) (hx2 a w F (fun s hs => hk s (by simp [Op.operands, hs])) e) e3, [.int .i64 n, .int .i64 m, .int .i64 0, .slice A l.length cp, .slice none 0 0], rfl, [_], _, rfl, rfl, [_], _, rfl, rfl, [_], _, rfl, rfl, [_], [_], rfl, ?_, rfl⟩
    rw [e3] at h3
    exact h3
theorem p_bd59_4 {n m q : Int} {l : List (Int × Int)} {y : Sym} (hg : GdE ops e g c) (hx : OpdE e c x (.int .i64 n)) (hx2 : OpdE e c x2 (.int .i64 m)) (hx3 : OpdE e c x3 (.int .i64 q)) (hx4 : OpdE e c x4 (.both y (.one (Lay.sl slotL) l))) : Pays U Try.prog ops Q N e ⟨some d, .build 59 #[(0, x), (1, x2), (2, x3), (3, x4)], t, p, af, g⟩ (c, .st cf0L (n, m, q, l, ())) :=
  pVal hg fun e a w F hk => by
    have h4 := (hx4 a w F (fun s hs => hk s (by simp [Op.operands, hs])) e).2
    obtain ⟨A, cp, e4⟩ := sl_in h4
    refine ⟨_, bd59_4 _ w (hx a w F (fun s hs => hk s (by simp [Op.operands, hs])) e) (hx2 a w F (fun s hs => hk s (by simp [Op.operands, hs])) e) (hx3 a w F (fun s hs => hk s (by simp [Op.operands, hs])) e) e4, [.int .i64 n, .int .i64 m, .int .i64 q, .slice A l.length cp, .slice none 0 0], rfl, [_], _, rfl, rfl, [_], _, rfl, rfl, [_], _, rfl, rfl, [_], [_], rfl, ?_, rfl⟩
    rw [e4] at h4
    exact h4
theorem opd_mono {y y' : Sym} (h : OpdE e c x y) (hy : ∀ {w : World} {F : Cell → Prop} {v : Value}, y.on w F v → y'.on w F v) : OpdE e c x y' := fun a w F hk hc => hy (h a w F hk hc)
/-- A loop of two rounds. -/
theorem wp_twice {P : Program} {c : Code} {A B : Act → World → Prop} (s : Nat) (h0 : A a w) (hA : ∀ a w, A a w → intOf (a.tmps.getD s undef) = 0) (hB : ∀ a w, B a w → intOf (a.tmps.getD s undef) = 3)
    (h1 : ∀ a w, A a w → c.wp P (Exit.then B Q) a w) (h2 : ∀ a w, B a w → c.wp P (Exit.then (fun _ _ => False) Q) a w) : (Code.loop c).wp P Q a w := by
  refine wp_loop (fun a w => A a w ∨ B a w) (fun a _ => 3 - (intOf (a.tmps.getD s undef)).toNat) (.inl h0) fun a w h => ?_
  rcases h with h | h
  · refine Code.wp_mono (fun e a' w' q => ?_) (h1 a w h)
    cases e with
    | normal => exact ⟨.inr q, by rw [hA _ _ h, hB _ _ q]; decide⟩
    | _ => exact q
  · refine Code.wp_mono (fun e a' w' q => ?_) (h2 a w h)
    cases e with
    | normal => exact q.elim
    | _ => exact q
end
theorem nuact {U : Prop} {l : Int × Int × List Int} : U → ∀ {w : World} {F : Cell → Prop} {cs : List Value}, actL.on w F cs l → ∀ x : Int, Value.int .u32 x ∉ cs := by
  rintro _ w F cs ⟨c1, _, rfl, h1, c2, c3, rfl, h2, h3⟩ x hx
  obtain rfl : c1 = [.int .i64 l.1] := h1
  obtain rfl : c2 = [.int .i64 l.2.1] := h2
  obtain ⟨A, c, rfl, _⟩ := h3
  simp at hx
theorem Try.info118s : (Try.prog.info? 118).map (fun i => (i.zero, i.size, i.bytes)) = some (some (.agg #[.int .i64 0, .int .i64 0, .slice none 0 0]), 3, 40) := by kernel_rfl
theorem Try.underlying115 : Try.prog.underlying 115 = some (.slice 118) := by kernel_rfl
theorem less_nil {F : Cell → Prop} (n : Nat) : ∀ k : Cell, And2 F (Sl (.slice none 0 0) n) k → F k := fun k h => h.elim id fun h => by cases h.1
set_option maxRecDepth 100000 in
theorem f98  : Fn True Try.prog 98 [.by [3, 2, 7]] (.one (Lay.sl actL) [(2, 0, [7])]) := fn1 fun w F v0 h0 hF => by
  obtain ⟨i0, hi0, hz0, hz1, hz2⟩ := info_parts Try.info118s
  obtain ⟨i1, hj0, hj1, hj2, hj3⟩ := info_parts Try.info5
  go_enter Try.func98, Try.ntmps98
  refine wp_seq ?_
  refine flowC mixed (st0 (U := True) (N := 77) (e := [(0, true, .by [3, 2, 7])]) (F := F) rfl rfl hF ⟨⟨rfl, h0⟩, True.intro⟩) (by kernel_rfl) (by kernel_rfl) (cc rfl (p_assign g0 (oc _)) cn) fun a1 w1 b1 s1 => ?_
  have z1 := b1
  refine wp_seq ?_
  refine flowC mixed (s1.keep (sc 0 rfl (sc 2 rfl sn))) (by kernel_rfl) (by kernel_rfl) (cc rfl (p_assign g0 (oc _)) cn) fun a2 w2 b2 s2 => ?_
  have z2 := z1.trans (b2.mono z1.size)
  refine wp_seq ?_
  refine wp_seq ?_
  refine flowC mixed (s2.keep (sc 0 rfl (sc 2 rfl (sc 3 rfl sn)))) (by kernel_rfl) (by kernel_rfl) (cc rfl (p_assign g0 (oc _)) cn) fun a3 w3 b3 s3 => ?_
  have z3 := z2.trans (b3.mono z2.size)
  refine wp_block ?_
  refine wp_twice (A := (fun a w' => StE True 77 [(4, true, .int .i64 0), (0, true, .by [3, 2, 7]), (3, true, .val (.slice none 0 0))] F a w' ∧ Below w.heap.size w w')) (B := (fun a w' => StE True 77 [(4, true, .int .i64 3), (0, true, .by [3, 2, 7]), (3, true, .one (Lay.sl actL) [(2, 0, [7])])] F a w' ∧ Below w.heap.size w w')) 4 ⟨s3.to _ ⟨rfl, rfl, rfl, True.intro⟩, z3⟩ (fun a w h => by rw [show a.tmps.getD 4 undef = .int .i64 0 from h.1.get 4 rfl]; rfl) (fun a w h => by rw [show a.tmps.getD 4 undef = .int .i64 3 from h.1.get 4 rfl]; rfl) (fun a4 w4 ⟨s4, z4⟩ => ?_) (fun a4 w4 ⟨s4, z4⟩ => ?_)
  · -- round 0
    refine wp_seq ?_
    refine wp_seq ?_
    refine flowC mixed (s4.keep (sc 0 rfl (sc 3 rfl (sc 4 rfl sn)))) (by kernel_rfl) (by kernel_rfl) (cc rfl (p_move g0 (od rfl id))
        (cc rfl (p_move g0 (od rfl id))
        (cc rfl (p_len ln_22 g0 (od rfl id))
        (cc rfl (p_bin g0 (od rfl id) (od rfl id) b_lss_3) cn)))) fun a5 w5 b5 s5 => ?_
    have z5 := z4.trans (b5.mono z4.size)
    refine s5.cond 10 rfl (fun _ => ?_) (fun h => absurd h (by decide))
    refine wp_skip ?_
    refine wp_seq ?_
    refine wp_block ?_
    refine wp_seq ?_
    refine flowC mixed (s5.keep (sc 0 rfl (sc 3 rfl (sc 4 rfl (sc 7 rfl (sc 8 rfl (sc 9 rfl (sc 10 rfl sn)))))))) (by kernel_rfl) (by kernel_rfl) (cc rfl (p_move g0 (od rfl id))
        (cc rfl (p_move g0 (od rfl id))
        (cc rfl (p_index (i := 0) ix_22 rfl g0 (od rfl id) (od rfl id))
        (cc rfl (p_loadI ld_5 g0 (od rfl id))
        (cc rfl (p_bin g0 (od rfl id) (oc _) shr20)
        (cc rfl (p_conv g0 (od rfl id) cv_5_3)
        (cc rfl (p_assign g0 (od rfl id)) cn))))))) fun a6 w6 b6 s6 => ?_
    have z6 := z5.trans (b6.mono z5.size)
    have s6 := s6.more 5 (y := .int .i64 0) (int_as (s6.get 5 rfl) (by decide))
    refine wp_seq ?_
    refine wp_seq ?_
    refine flowC mixed (s6.keep (sc 0 rfl (sc 3 rfl (sc 4 rfl (sc 5 rfl (sc 7 rfl (sc 8 rfl (sc 9 rfl (sc 10 rfl (sc 13 rfl (sc 14 rfl (sc 15 rfl (sc 16 rfl (sc 17 rfl (sc 18 rfl sn))))))))))))))) (by kernel_rfl) (by kernel_rfl) (cc rfl (p_move g0 (od rfl id))
        (cc rfl (p_move g0 (od rfl id))
        (cc rfl (p_index (i := 0) ix_22 rfl g0 (od rfl id) (od rfl id))
        (cc rfl (p_loadI ld_5 g0 (od rfl id))
        (cc rfl (p_bin g0 (od rfl id) (oc _) and20) cn))))) fun a7 w7 b7 s7 => ?_
    have z7 := z6.trans (b7.mono z6.size)
    refine wp_block ?_
    refine wp_seq ?_
    refine wp_seq ?_
    refine flowC mixed (s7.keep (sc 0 rfl (sc 3 rfl (sc 4 rfl (sc 5 rfl (sc 7 rfl (sc 8 rfl (sc 9 rfl (sc 10 rfl (sc 13 rfl (sc 14 rfl (sc 15 rfl (sc 16 rfl (sc 17 rfl (sc 18 rfl (sc 19 rfl (sc 20 rfl (sc 21 rfl (sc 22 rfl (sc 23 rfl sn)))))))))))))))))))) (by kernel_rfl) (by kernel_rfl) (cc rfl (p_bin g0 (od rfl id) (oc _) b_eql_5)
        (cc rfl (p_assign g0 (od rfl id)) cn)) fun a8 w8 b8 s8 => ?_
    have z8 := z7.trans (b8.mono z7.size)
    refine s8.cond 24 rfl (fun h => absurd h (by decide)) fun _ => ?_
    refine flowT (s8.keep (sc 0 rfl (sc 3 rfl (sc 4 rfl (sc 5 rfl (sc 7 rfl (sc 8 rfl (sc 9 rfl (sc 10 rfl (sc 13 rfl (sc 14 rfl (sc 15 rfl (sc 16 rfl (sc 17 rfl (sc 18 rfl (sc 19 rfl (sc 20 rfl (sc 21 rfl (sc 22 rfl (sc 23 rfl (sc 24 rfl (sc 25 rfl sn)))))))))))))))))))))) (by kernel_rfl) (cc rfl (p_bin g0 (od rfl id) (oc _) b_eql_5)
        (cc rfl (p_assign g0 (od rfl id)) cn)) fun a9 w9 b9 s9 => ?_
    have z9 := z8.trans (b9.mono z8.size)
    refine s9.cond 24 rfl (fun h => absurd h (by decide)) fun _ => ?_
    refine wp_seq ?_
    refine flowC mixed (s9.keep (sc 0 rfl (sc 3 rfl (sc 4 rfl (sc 5 rfl (sc 7 rfl (sc 8 rfl (sc 9 rfl (sc 10 rfl (sc 13 rfl (sc 14 rfl (sc 15 rfl (sc 16 rfl (sc 17 rfl (sc 18 rfl (sc 19 rfl (sc 20 rfl (sc 21 rfl (sc 22 rfl (sc 23 rfl (sc 24 rfl (sc 25 rfl (sc 26 rfl sn))))))))))))))))))))))) (by kernel_rfl) (by kernel_rfl) (cc rfl (p_bin g0 (od rfl id) (oc _) b_eql_5)
        (cc rfl (p_assign g0 (od rfl id)) cn)) fun a10 w10 b10 s10 => ?_
    have z10 := z9.trans (b10.mono z9.size)
    refine s10.cond 32 rfl (fun h => absurd h (by decide)) fun _ => ?_
    refine wp_skip ?_
    refine wp_seq ?_
    refine flowC mixed (s10.keep (sc 0 rfl (sc 3 rfl (sc 4 rfl (sc 5 rfl (sc 7 rfl (sc 8 rfl (sc 9 rfl (sc 10 rfl (sc 13 rfl (sc 14 rfl (sc 15 rfl (sc 16 rfl (sc 17 rfl (sc 18 rfl (sc 19 rfl (sc 20 rfl (sc 21 rfl (sc 22 rfl (sc 23 rfl (sc 24 rfl (sc 25 rfl (sc 26 rfl (sc 32 rfl (sc 33 rfl sn))))))))))))))))))))))))) (by kernel_rfl) (by kernel_rfl) (cc rfl (p_assign g0 (oc _)) cn) fun a11 w11 b11 s11 => ?_
    have z11 := z10.trans (b11.mono z10.size)
    refine wp_seq ?_
    refine wp_seq ?_
    refine flowC mixed (s11.keep (sc 0 rfl (sc 3 rfl (sc 4 rfl (sc 5 rfl (sc 6 rfl (sc 7 rfl (sc 8 rfl (sc 9 rfl (sc 10 rfl (sc 13 rfl (sc 14 rfl (sc 15 rfl (sc 16 rfl (sc 17 rfl (sc 18 rfl (sc 19 rfl (sc 20 rfl (sc 21 rfl (sc 22 rfl (sc 23 rfl (sc 24 rfl (sc 25 rfl (sc 26 rfl (sc 32 rfl (sc 33 rfl sn)))))))))))))))))))))))))) (by kernel_rfl) (by kernel_rfl) (cc rfl (p_move g0 (od rfl id))
        (cc rfl (p_bin g0 (od rfl id) (oc _) b_add_3)
        (cc rfl (p_move g0 (od rfl id))
        (cc rfl (p_len ln_22 g0 (od rfl id))
        (cc rfl (p_bin g0 (od rfl id) (od rfl id) b_lss_3) cn))))) fun a12 w12 b12 s12 => ?_
    have z12 := z11.trans (b12.mono z11.size)
    refine s12.cond 43 rfl (fun _ => ?_) (fun h => absurd h (by decide))
    refine wp_seq ?_
    refine flowT (s12.keep (sc 0 rfl (sc 3 rfl (sc 4 rfl (sc 5 rfl (sc 6 rfl (sc 7 rfl (sc 8 rfl (sc 9 rfl (sc 10 rfl (sc 13 rfl (sc 14 rfl (sc 15 rfl (sc 16 rfl (sc 17 rfl (sc 18 rfl (sc 19 rfl (sc 20 rfl (sc 21 rfl (sc 22 rfl (sc 23 rfl (sc 24 rfl (sc 25 rfl (sc 26 rfl (sc 32 rfl (sc 33 rfl (sc 39 rfl (sc 40 rfl (sc 41 rfl (sc 42 rfl (sc 43 rfl sn))))))))))))))))))))))))))))))) (by kernel_rfl) (cc rfl (p_move g0 (od rfl id))
        (cc rfl (p_bin g0 (od rfl id) (oc _) b_add_3)
        (cc rfl (p_assign g0 (od rfl id)) cn))) fun a13 w13 b13 s13 => ?_
    have z13 := z12.trans (b13.mono z12.size)
    have s13 := s13.more 4 (y := .int .i64 1) (int_as (s13.get 4 rfl) (by decide))
    refine flowT (s13.keep (sc 0 rfl (sc 3 rfl (sc 4 rfl (sc 5 rfl (sc 6 rfl (sc 7 rfl (sc 8 rfl (sc 9 rfl (sc 10 rfl (sc 13 rfl (sc 14 rfl (sc 15 rfl (sc 16 rfl (sc 17 rfl (sc 18 rfl (sc 19 rfl (sc 20 rfl (sc 21 rfl (sc 22 rfl (sc 23 rfl (sc 24 rfl (sc 25 rfl (sc 26 rfl (sc 32 rfl (sc 33 rfl (sc 39 rfl (sc 40 rfl (sc 41 rfl (sc 42 rfl (sc 43 rfl (sc 44 rfl (sc 45 rfl sn))))))))))))))))))))))))))))))))) (by kernel_rfl) (cc rfl (p_move g0 (od rfl id))
        (cc rfl (p_move g0 (od rfl id))
        (cc rfl (p_index (i := 1) ix_22 rfl g0 (od rfl id) (od rfl id))
        (cc rfl (p_loadI ld_5 g0 (od rfl id))
        (cc rfl (p_conv g0 (od rfl id) cv_5_3)
        (cc rfl (p_bin g0 (od rfl id) (oc _) (b_rem_3 (by decide)))
        (cc rfl (p_assign g0 (od rfl id)) cn))))))) fun a14 w14 b14 s14 => ?_
    have z14 := z13.trans (b14.mono z13.size)
    have s14 := s14.more 6 (y := .int .i64 2) (int_as (s14.get 6 rfl) (by decide))
    refine wp_seq ?_
    refine flowT (s14.keep (sc 0 rfl (sc 3 rfl (sc 4 rfl (sc 5 rfl (sc 6 rfl (sc 7 rfl (sc 8 rfl (sc 9 rfl (sc 10 rfl (sc 13 rfl (sc 14 rfl (sc 15 rfl (sc 16 rfl (sc 17 rfl (sc 18 rfl (sc 19 rfl (sc 20 rfl (sc 21 rfl (sc 22 rfl (sc 23 rfl (sc 24 rfl (sc 25 rfl (sc 26 rfl (sc 32 rfl (sc 33 rfl (sc 39 rfl (sc 40 rfl (sc 41 rfl (sc 42 rfl (sc 43 rfl (sc 44 rfl (sc 45 rfl (sc 46 rfl (sc 47 rfl (sc 48 rfl (sc 49 rfl (sc 50 rfl (sc 51 rfl sn))))))))))))))))))))))))))))))))))))))) (by kernel_rfl) (cc rfl (p_move g0 (od rfl id))
        (cc rfl (p_move g0 (od rfl id))
        (cc rfl (p_len ln_22 g0 (od rfl id))
        (cc rfl (p_bin g0 (od rfl id) (oc _) b_sub_3)
        (cc rfl (p_move g0 (od rfl id))
        (cc rfl (p_bin g0 (od rfl id) (od rfl id) b_sub_3)
        (cc rfl (p_min g0 (od rfl id) (od rfl id) mn_3)
        (cc rfl (p_assign g0 (od rfl id)) cn)))))))) fun a15 w15 b15 s15 => ?_
    have z15 := z14.trans (b15.mono z14.size)
    have s15 := s15.more 6 (y := .int .i64 1) (int_as (s15.get 6 rfl) (by decide))
    refine wp_seq ?_
    refine wp_region_lit ?_
    refine chainK 13 (cc rfl (p_move g0 (od rfl id))
        (cc rfl (p_move g0 (od rfl id))
        (cc rfl (p_move g0 (od rfl id))
        (cc rfl (p_move g0 (od rfl id))
        (cc rfl (p_binE (n' := ((2 : Nat) : Int)) (by decide) g0 (od rfl id) (oc _) b_add_3)
        (cc rfl (p_move g0 (od rfl id))
        (cc rfl (p_binE (n' := 2) (by decide) g0 (od rfl id) (oc _) b_add_3)
        (cc rfl (p_move g0 (od rfl id))
        (cc rfl (p_binE (n' := ((3 : Nat) : Int)) (by decide) g0 (od rfl id) (od rfl id) b_add_3)
        (cc rfl (p_slLH (l := [3, 2, 7]) (k := 2) (m := 3) (by decide) (by decide) g0 (od rfl id) (od rfl id) (od rfl id))
        (cc rfl (p_append0 byF Try.underlying22 hj0 hj1 hj2 hj3 rfl (by decide) (by decide) (by decide) g0 (od rfl id))
        (cc rfl (p_bd118 g0 (oc _) (od rfl id) (od rfl id))
        (cc rfl (p_litL bs_115 g0 (od rfl id)) cn))))))))))))) (by kernel_rfl) (s15.keep (sc 0 rfl (sc 3 rfl (sc 4 rfl (sc 5 rfl (sc 6 rfl (sc 7 rfl (sc 8 rfl (sc 9 rfl (sc 10 rfl (sc 13 rfl (sc 14 rfl (sc 15 rfl (sc 16 rfl (sc 17 rfl (sc 18 rfl (sc 19 rfl (sc 20 rfl (sc 21 rfl (sc 22 rfl (sc 23 rfl (sc 24 rfl (sc 25 rfl (sc 26 rfl (sc 32 rfl (sc 33 rfl (sc 39 rfl (sc 40 rfl (sc 41 rfl (sc 42 rfl (sc 43 rfl (sc 44 rfl (sc 45 rfl (sc 46 rfl (sc 47 rfl (sc 48 rfl (sc 49 rfl (sc 50 rfl (sc 51 rfl (sc 52 rfl (sc 53 rfl (sc 54 rfl (sc 55 rfl (sc 56 rfl (sc 57 rfl (sc 58 rfl sn)))))))))))))))))))))))))))))))))))))))))))))) fun a16 w16 b16 s16 => ?_
    have z16 := z15.trans (b16.mono z15.size)
    show wpList _ _ _ (_ :: _) _ _
    have s16 := (s16.less (F' := And2 F (Sl (.slice none 0 0) (([] : List (Int × Int × List Int)).length * actL.n))) (less_nil _)).more 59 (y := .both (.val (.slice none 0 0)) .any) ⟨s16.get 59 rfl, True.intro⟩
    refine growL_step (B := w16.heap.size) 59 71 s16 GrowsL.nil rfl rfl (by decide) rfl Try.underlying115 hi0 hz0 hz1 hz2 rfl (by decide) rfl rfl (Nat.le_refl _) (by decide) (by decide) (fun _ y => by simp [Value.cells]) nuact fun v a17 w17 gr g17 eo17 s17 => ?_
    have z17 := z16.grown g17 z16.size fun k e => by cases e
    have s17 := s17.less (F' := F) (fun _ h => .inl h)
    have s17 := s17.more 72 (y := .one (Lay.sl actL) [(2, 0, [7])]) ((s17.get 72 rfl).2)
    refine chainT (t := []) (cc rfl (p_assign g0 (od rfl id)) cn) (by kernel_rfl) s17 fun a18 w18 b18 s18 => wpList_done ?_
    have z18 := z17.trans (b18.mono z17.size)
    refine flowT (s18.keep (sc 0 rfl (sc 3 rfl (sc 4 rfl (sc 5 rfl (sc 6 rfl (sc 7 rfl (sc 8 rfl (sc 9 rfl (sc 10 rfl (sc 13 rfl (sc 14 rfl (sc 15 rfl (sc 16 rfl (sc 17 rfl (sc 18 rfl (sc 19 rfl (sc 20 rfl (sc 21 rfl (sc 22 rfl (sc 23 rfl (sc 24 rfl (sc 25 rfl (sc 26 rfl (sc 32 rfl (sc 33 rfl (sc 39 rfl (sc 40 rfl (sc 41 rfl (sc 42 rfl (sc 43 rfl (sc 44 rfl (sc 45 rfl (sc 46 rfl (sc 47 rfl (sc 48 rfl (sc 49 rfl (sc 50 rfl (sc 51 rfl (sc 52 rfl (sc 53 rfl (sc 54 rfl (sc 55 rfl (sc 56 rfl (sc 57 rfl (sc 58 rfl (sc 59 rfl (sc 60 rfl (sc 61 rfl (sc 62 rfl (sc 63 rfl (sc 64 rfl (sc 65 rfl (sc 66 rfl (sc 67 rfl (sc 68 rfl (sc 69 rfl (sc 70 rfl (sc 71 rfl (sc 72 rfl sn)))))))))))))))))))))))))))))))))))))))))))))))))))))))))))) (by kernel_rfl) (cc rfl (p_move g0 (od rfl id))
        (cc rfl (p_move g0 (od rfl id))
        (cc rfl (p_bin g0 (od rfl id) (od rfl id) b_add_3)
        (cc rfl (p_assign g0 (od rfl id)) cn)))) fun a19 w19 b19 s19 => ?_
    have z19 := z18.trans (b19.mono z18.size)
    have s19 := s19.more 4 (y := .int .i64 2) (int_as (s19.get 4 rfl) (by decide))
    refine flowT (s19.keep (sc 0 rfl (sc 3 rfl (sc 4 rfl (sc 5 rfl (sc 6 rfl (sc 7 rfl (sc 8 rfl (sc 9 rfl (sc 10 rfl (sc 13 rfl (sc 14 rfl (sc 15 rfl (sc 16 rfl (sc 17 rfl (sc 18 rfl (sc 19 rfl (sc 20 rfl (sc 21 rfl (sc 22 rfl (sc 23 rfl (sc 24 rfl (sc 25 rfl (sc 26 rfl (sc 32 rfl (sc 33 rfl (sc 39 rfl (sc 40 rfl (sc 41 rfl (sc 42 rfl (sc 43 rfl (sc 44 rfl (sc 45 rfl (sc 46 rfl (sc 47 rfl (sc 48 rfl (sc 49 rfl (sc 50 rfl (sc 51 rfl (sc 52 rfl (sc 53 rfl (sc 54 rfl (sc 55 rfl (sc 56 rfl (sc 57 rfl (sc 58 rfl (sc 59 rfl (sc 60 rfl (sc 61 rfl (sc 62 rfl (sc 63 rfl (sc 64 rfl (sc 65 rfl (sc 66 rfl (sc 67 rfl (sc 68 rfl (sc 69 rfl (sc 70 rfl (sc 71 rfl (sc 72 rfl (sc 73 rfl (sc 74 rfl (sc 75 rfl sn))))))))))))))))))))))))))))))))))))))))))))))))))))))))))))))) (by kernel_rfl) (cc rfl (p_move g0 (od rfl id))
        (cc rfl (p_bin g0 (od rfl id) (oc _) b_add_3)
        (cc rfl (p_assign g0 (od rfl id)) cn))) fun a20 w20 b20 s20 => ?_
    have z20 := z19.trans (b20.mono z19.size)
    have s20 := s20.more 4 (y := .int .i64 3) (int_as (s20.get 4 rfl) (by decide))
    exact ⟨s20.to _ ⟨rfl, rfl, rfl, True.intro⟩, z20⟩
  · -- round 1
    refine wp_seq ?_
    refine wp_seq ?_
    refine flowC mixed (s4.keep (sc 0 rfl (sc 3 rfl (sc 4 rfl sn)))) (by kernel_rfl) (by kernel_rfl) (cc rfl (p_move g0 (od rfl id))
        (cc rfl (p_move g0 (od rfl id))
        (cc rfl (p_len ln_22 g0 (od rfl id))
        (cc rfl (p_bin g0 (od rfl id) (od rfl id) b_lss_3) cn)))) fun a21 w21 b21 s21 => ?_
    have z21 := z4.trans (b21.mono z4.size)
    refine s21.cond 10 rfl (fun h => absurd h (by decide)) fun _ => ?_
    refine wp_exit ?_
    refine wp_seq ?_
    refine flowC mixed (s21.keep (sc 0 rfl (sc 3 rfl (sc 4 rfl sn)))) (by kernel_rfl) (by kernel_rfl) (cc rfl (p_move g0 (od rfl id))
        (cc rfl (p_assign g0 (od rfl id)) cn)) fun a22 w22 b22 s22 => ?_
    have z22 := z21.trans (b22.mono z21.size)
    exact wp_ret (ret_tmp (fn := Try.f98) s22 2 rfl rfl (fun _ h => h) z22)
end Go.Proofs.Ytihddficgpjgpaa.Y
