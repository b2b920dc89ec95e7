/- Ydec: config.Decode -/
import Derived.Test.YtihddficgpjgpaaZMRo
import Derived.Test.YtihddficgpjgpaaZMOu
import Derived.Test.YtihddficgpjgpaaZYplb
namespace Go.Proofs.Ytihddficgpjgpaa.Y
open Go.RowKit Go.ChangeShapes Go.WideShapes Go.ChangeAt
theorem many_len {α : Type} {R : Rd α} : ∀ {n : Nat} {bs : List Int} {s : Nat × Bool}, (manyR R n bs s).1.length ≤ n
  | 0, _, _ => Nat.le_refl _
  | n + 1, bs, s => by
    cases h : s.2 with
    | true => rw [many_bad h]; exact Nat.zero_le _
    | false => rw [many_go h, List.length_cons]; exact Nat.succ_le_succ many_len
theorem many_all {α : Type} {R : Rd α} {bs : List Int} {p : α → Prop} (hp : ∀ s, p (R bs s).1) : ∀ {n : Nat} {s : Nat × Bool}, ∀ x ∈ (manyR R n bs s).1, p x
  | 0, _, x, hx => by cases hx
  | n + 1, s, x, hx => by
    cases h : s.2 with
    | true => rw [many_bad h] at hx; cases hx
    | false =>
      rw [many_go h] at hx
      rcases List.mem_cons.1 hx with rfl | hx
      · exact hp s
      · exact many_all hp x hx
theorem bdR_mps {bs : List Int} (hB : Pk.Byt bs) (k : Int) (s : Nat × Bool) : (bdR k bs s).1.2.2.2.2.1.length ≤ 255 := by
  by_cases k1 : k = 1
  · rw [bd_1 k1]; exact Nat.zero_le _
  by_cases k2 : k = 2
  · rw [bd_2 k2]; exact Nat.zero_le _
  by_cases k4 : k = 4
  · rw [bd_4 k4]
    have h1 := nx1 hB s
    have h2 : (manyR mapR5 (nx bs s 1).1.toNat bs (nx bs s 1).2).1.length ≤ (nx bs s 1).1.toNat := many_len
    show (manyR mapR5 (nx bs s 1).1.toNat bs (nx bs s 1).2).1.length ≤ 255
    omega
  by_cases k3 : k = 3 ∨ k = 5
  · rw [bd_3 k3]; exact Nat.zero_le _
  by_cases k6 : k = 6
  · rw [bd_6 k6]; exact Nat.zero_le _
  · rw [bd_0 k1 k2 k4 k3 k6]; exact Nat.zero_le _
theorem obR_mps {bs : List Int} (hB : Pk.Byt bs) (s : Nat × Bool) : (obR bs s).1.mps.length ≤ 255 := by
  rw [ob_read]
  exact bdR_mps hB _ _
theorem cf_read {bs : List Int} {s0 t1 t2 t3 t4 t5 t6 t7 : Nat × Bool} {x1 x2 x3 x4 x6 : Int} {sl : List (Int × Int)} {obs : List Ob} (e1 : x1 = (nx bs s0 1).1) (f1 : t1 = (nx bs s0 1).2) (e2 : x2 = (nx bs t1 2).1) (f2 : t2 = (nx bs t1 2).2) (e3 : x3 = (nx bs t2 4).1) (f3 : t3 = (nx bs t2 4).2) (e4 : x4 = (nx bs t3 1).1) (f4 : t4 = (nx bs t3 1).2) (h5 : manyR slR x4.toNat bs t4 = (sl, t5)) (e6 : x6 = (nx bs t5 1).1) (f6 : t6 = (nx bs t5 1).2) (h7 : manyR obR x6.toNat bs t6 = (obs, t7)) : cfR bs s0 = (⟨x1, x2, x3, sl, obs⟩, t7) := by
  subst e1 f1 e2 f2 e3 f3 e4 f4
  have e5 : t5 = (manyR slR (nx bs (nx bs (nx bs (nx bs s0 1).2 2).2 4).2 1).1.toNat bs (nx bs (nx bs (nx bs (nx bs s0 1).2 2).2 4).2 1).2).2 := by rw [h5]
  have e5' : sl = (manyR slR (nx bs (nx bs (nx bs (nx bs s0 1).2 2).2 4).2 1).1.toNat bs (nx bs (nx bs (nx bs (nx bs s0 1).2 2).2 4).2 1).2).1 := by rw [h5]
  subst e6 f6
  have e7 : t7 = (manyR obR (nx bs t5 1).1.toNat bs (nx bs t5 1).2).2 := by rw [h7]
  have e7' : obs = (manyR obR (nx bs t5 1).1.toNat bs (nx bs t5 1).2).1 := by rw [h7]
  rw [e7, e7', e5', e5]
  rfl
theorem sl_read {bs : List Int} {s s1 s2 : Nat × Bool} {y1 y2 : Int} (e1 : y1 = (nx bs s 1).1) (f1 : s1 = (nx bs s 1).2) (e2 : y2 = (nx bs s1 1).1) (f2 : s2 = (nx bs s1 1).2) : slR bs s = ((y1, y2), s2) := by subst e1 f1 e2 f2; rfl
theorem calls1 {U : Prop} {f : FuncId} {y0 y : Sym} {v : Value} {w : World} (h : Fn U Try.prog f [y0] y) (h0 : y0.on w noF v) : Calls Try.prog f #[v] w fun e w' => ∃ r, e = .returned r ∧ (y.on w' noF r ∧ Below w.heap.size w w') :=
  h w noF [v] rfl (fun i v2 y2 h1 h2 => by
    match i with
    | 0 =>
      injection h1 with h1
      injection h2 with h2
      subst h1 h2
      exact h0
    | i + 1 => cases h1) (fok_none U w)
section
variable {d : Nat} {t : TypeId} {p : String} {af : Array Edge} {g : Option (Nat × Bool)} {x x2 x3 : Operand}
theorem mn_23 {a b : Int} : Run2 Try.prog ⟨some d, .call { callee := .builtin .min, args := #[x, x2], argTypes := #[23, 23] }, t, p, af, g⟩ x x2 (.int .u64 a) (.int .u64 b) (.int .u64 (min a b)) := fun ev w h1 h2 => by go_simp
theorem bd59m {a b c : Int} : ∀ (ev : Operand → Value) (w : World), ev x = .int .i64 a → ev x2 = .int .i64 b → ev x3 = .int .i64 c → (execOp ev ⟨some d, .build 59 #[(0, x), (1, x2), (2, x3)], t, p, af, g⟩).run Try.prog w = .ok (.value (.agg #[.int .i64 a, .int .i64 b, .int .i64 c, .slice none 0 0, .slice none 0 0])) w := fun ev w h1 h2 h3 => by go_simp
theorem bd59z : DoneRun Try.prog ⟨some d, .build 59 #[], t, p, af, g⟩ (.agg #[.int .i64 0, .int .i64 0, .int .i64 0, .slice none 0 0, .slice none 0 0]) := fun ev w h => by go_simp
theorem bd64m {a b : Int} : ∀ (ev : Operand → Value) (w : World), ev x = .int .u64 a → ev x2 = .int .i64 b → (execOp ev ⟨some d, .build 64 #[(0, x), (1, x2)], t, p, af, g⟩).run Try.prog w = .ok (.value (.agg #[.int .u64 a, .int .i64 b])) w := fun ev w h1 h2 => by go_simp
section
variable {U : Prop} {ops : Array Oper} {Q : Exit → Act → World → Prop} {N : Nat} {e : Env} {c : Bool}
theorem p_bd59m {a b c' : Int} (hg : GdE ops e g c) (hx : OpdE e c x (.int .i64 a)) (hx2 : OpdE e c x2 (.int .i64 b)) (hx3 : OpdE e c x3 (.int .i64 c')) : Pays U Try.prog ops Q N e ⟨some d, .build 59 #[(0, x), (1, x2), (2, x3)], t, p, af, g⟩ (c, .val (.agg #[.int .i64 a, .int .i64 b, .int .i64 c', .slice none 0 0, .slice none 0 0])) :=
  pVal hg fun e a w F hk => ⟨_, bd59m _ w (hx a w F (fun s hs => hk s (by simp [Op.operands, hs])) e) (hx2 a w F (fun s hs => hk s (by simp [Op.operands, hs])) e) (hx3 a w F (fun s hs => hk s (by simp [Op.operands, hs])) e), rfl⟩
theorem p_bd64m {a b : Int} (hg : GdE ops e g c) (hx : OpdE e c x (.int .u64 a)) (hx2 : OpdE e c x2 (.int .i64 b)) : Pays U Try.prog ops Q N e ⟨some d, .build 64 #[(0, x), (1, x2)], t, p, af, g⟩ (c, .st slotL (a, b)) :=
  pVal hg fun e a w F hk => ⟨_, bd64m _ w (hx a w F (fun s hs => hk s (by simp [Op.operands, hs])) e) (hx2 a w F (fun s hs => hk s (by simp [Op.operands, hs])) e), _, rfl, (slF w F _ _).2 rfl⟩
end
end
abbrev ptrV (g : Nat) : Value := .pointer (some ⟨g, 0, none⟩)
theorem wp_cut {P : Program} {c : Code} {R : Act → World → Prop} {Q : Exit → Act → World → Prop} {a : Act} {w : World} (M : Act → World → Prop) (h1 : c.wp P (Exit.then M Q) a w) (h2 : ∀ a w, M a w → R a w) : c.wp P (Exit.then R Q) a w := by
  refine Code.wp_mono (fun e a' w' q => ?_) h1
  cases e with
  | normal => exact h2 a' w' q
  | _ => exact q
theorem sz_53 : (Try.prog.info? 53).map (·.size) = some 1 := by kernel_rfl
theorem sz_57 : (Try.prog.info? 57).map (·.size) = some 1 := by kernel_rfl
/-- The cells of a configuration that was read. -/
theorem cf_cells {w : World} {F : Cell → Prop} {B : Nat} {x1 x2 x3 : Int} {vs vo : Value} {sl : List (Int × Int)} {q : List (Ob × Four)} (hs : w.ownsRow B 64 2 vs sl.length (sl.flatMap slE)) (ho : ObsAt w B vo q) (hF : ∀ k : Cell, F k → k.1 < B) : cfL.on w F [.int .i64 x1, .int .i64 x2, .int .i64 x3, vs, vo] ⟨x1, x2, x3, sl, q.map (·.1)⟩ :=
  cf_of (sl_of_own slF hs (fun x o hx _ hf => by have h1 := own_base hs hx; have h2 := hF (x, o) hf; simp only at h2; omega)) (ho.on hF)
theorem at_blk {α : Type} {L : Lay α} {x : α} {w : World} {g : Nat} {T : TypeId} {cs : Array Value} (hB : Blk w g T cs) (hL : L.on w noF cs.toList x) {v : Value} (hv : v = ptrV g) : (Sym.at L x).on w noF v := by
  subst hv
  exact at_of_blk hB hL fun _ h => h
theorem cf_ones {a b c : Int} {vs vo : Value} (h1 : vs.oneCell' = true) (h2 : vo.oneCell' = true) : (#[Value.int .i64 a, .int .i64 b, .int .i64 c, vs, vo] : Array Value).all (fun u => u.oneCell') = true := all_arr (l := [.int .i64 a, .int .i64 b, .int .i64 c, vs, vo]) (by
  intro u hu
  simp only [List.mem_cons, List.not_mem_nil, or_false] at hu
  rcases hu with rfl | rfl | rfl | rfl | rfl <;> first | rfl | assumption)
theorem ob_base {w : World} {B x : Nat} {p : Ob × Four} (h : ObE w B p) (hx : p.2.1.ownBlock = some x ∨ p.2.2.1.ownBlock = some x ∨ p.2.2.2.1.ownBlock = some x ∨ p.2.2.2.2.ownBlock = some x) : B ≤ x := by
  rcases hx with hx | hx | hx | hx
  · exact own_base h.own.l hx
  · exact own_base h.own.c hx
  · exact own_base h.own.d hx
  · exact own_base h.own.m hx
theorem ob_ones {w : World} {B : Nat} {p : Ob × Four} (h : ObE w B p) : ∀ u ∈ qO p, u.oneCell' = true := by
  obtain ⟨o, a, b, c, d⟩ := p
  exact obL_ones (k := o.k) (p := o.par) (l := o.lab.d) (c := o.clr.d) (pg := o.pg) (nm := o.nm) (sp := o.sp) (pc := o.pc) (slice_oneO h.own.l).1 (slice_oneO h.own.c).1 (slice_oneO h.own.d).1 (slice_oneO h.own.m).1
set_option maxRecDepth 100000 in
set_option maxHeartbeats 3200000 in
/-- A configuration is read. -/
theorem f96 {U : Prop} {bs : List Int} (hB : Pk.Byt bs) (hm : bs.length ≤ 1000000) : Fn U Try.prog 96 [.by bs] (.two (.st cfL (decV bs).1) (.int .i64 (decV bs).2)) := fn_any (fn1 fun w F v0 h0 hF => by
  obtain ⟨i3, hs0, hs1, hs2, hs3⟩ := info_parts Try.info64s
  obtain ⟨i4, hz0, hz1, hz2, hz3⟩ := info_parts Try.info67s
  have z0 : OnlyB (fun _ => False) w w := OnlyB.refl _ _
  go_enter Try.func96, Try.ntmps96
  refine wp_seq ?_
  refine wp_region_lit ?_
  refine with_stO (st0 (U := False) (N := 67) (e := [(0, true, .val v0)]) (F := noF) rfl rfl (fok_no _ _) ⟨⟨rfl, rfl⟩, True.intro⟩) fun s0 => ?_
  show wpList _ _ _ (_ :: _) _ _
  refine alloc_onO (u := 59) (z := #[.int .i64 0, .int .i64 0, .int .i64 0, .slice none 0 0, .slice none 0 0]) s0 (by simp [Region.wanted]) rfl (by decide) (al_59 _ _) (vvO 0 rfl vnO) fun g2 a1 w1 k2 hg2 b1 s1 => ?_
  have z1 := z0.below b1
  refine chainK 1 (cc rfl (p_assign g0 (oc _)) cn) (by kernel_rfl) s1 fun a2 w2 b2 s2 => ?_
  have z2 := z1.below b2
  have k2 := k2.below b2 k2.lt
  refine wpList_done ?_
  refine wp_seq ?_
  refine wp_region_lit ?_
  refine with_stO (s2.keep (sc 0 rfl (sc 2 rfl (sc 3 rfl sn)))) fun s2 => ?_
  refine chainK 1 (cc rfl (p_move g0 (od rfl id)) cn) (by kernel_rfl) s2 fun a3 w3 b3 s3 => ?_
  have z3 := z2.below b3
  have k2 := k2.below b3 k2.lt
  show wpList _ _ _ (_ :: _) _ _
  have hby : (Sym.by bs).on w3 noF v0 := (Sym.by bs).mono h0 (.of (z3.to_below (fun _ _ h => h) (Nat.le_refl _))) fun _ _ h => h.elim
  obtain ⟨A, cp, ev0, hb1, hb2⟩ := by_in hby
  refine callO (R := fun v w' => v = ptrV w3.heap.size ∧ Pk.RdAt w' w3.heap.size bs 0 false ∧ Below w3.heap.size w3 w') [.tmp 7] s3 (by simp [Region.wanted]) (fun _ _ => by kernel_rfl) rfl (by decide) (show Calls Try.prog 31 #[a3.tmps.getD 7 undef] w3 _ from by rw [show a3.tmps.getD 7 undef = v0 from s3.get 7 rfl, ev0]; exact (Pk.new_any A cp bs w3 hb1 hb2).mono fun e w' ⟨h1, h2, h3⟩ => ⟨_, h1, rfl, h2, h3⟩) (vvO 2 rfl (vvO 3 rfl vnO)) fun v4 a4 w4 hR4 s4 => ?_
  obtain ⟨rfl, rd, b4⟩ := hR4
  have hg0 := z3.size
  have hg2g := k2.lt
  obtain ⟨g, eg⟩ : ∃ g, g = w3.heap.size := ⟨_, rfl⟩
  rw [← eg] at s4 rd hg0 hg2g
  have k2 := k2.below b4 k2.lt
  have z4 := z3.below b4
  obtain ⟨B, eB⟩ : ∃ b, b = w4.heap.size := ⟨_, rfl⟩
  have hgB : g < B := by rw [eB]; exact rd.lt
  have hwB : B ≤ w4.heap.size := Nat.le_of_eq eB
  refine chainK 1 (cc rfl (p_assign g0 (od rfl id)) cn) (by kernel_rfl) s4 fun a5 w5 b5 s5 => ?_
  have z5 := z4.below b5
  have k2 := k2.below b5 k2.lt
  have rd := rd.below b5
  have hwB := Nat.le_trans hwB b5.size
  refine wpList_done ?_
  refine wp_seq ?_
  refine wp_region_lit ?_
  refine with_stO (s5.keep (sc 2 rfl (sc 3 rfl (sc 4 rfl sn)))) fun s5 => ?_
  refine chainK 1 (cc rfl (p_move g0 (od rfl id)) cn) (by kernel_rfl) s5 fun a6 w6 b6 s6 => ?_
  have z6 := z5.below b6
  have k2 := k2.below b6 k2.lt
  have rd := rd.below b6
  have hwB := Nat.le_trans hwB b6.size
  show wpList _ _ _ (_ :: _) _ _
  refine callO (R := fun v w' => v = .int .u64 (nx bs (0, false) 1).1 ∧ Pk.RdAt w' g bs (nx bs (0, false) 1).2.1 (nx bs (0, false) 1).2.2 ∧ w6.grownBy w' (some g)) [.tmp 9, .const (.int .i64 1)] s6 (by simp [Region.wanted]) (fun _ _ => by kernel_rfl) rfl (by decide) (show Calls Try.prog 32 #[a6.tmps.getD 9 undef, .int .i64 1] w6 _ from by rw [show a6.tmps.getD 9 undef = ptrV g from s6.get 9 rfl]; exact (cNumS (s := (0, false)) (n := 1) rd hB hm (by decide) (by decide)).mono fun e w' ⟨h1, h2⟩ => ⟨_, h1, rfl, h2⟩) (vvO 2 rfl (vvO 3 rfl (vvO 4 rfl vnO))) fun v7 a7 w7 hR7 s7 => ?_
  obtain ⟨rfl, rd, gG⟩ := hR7
  obtain ⟨x1, ex1⟩ : ∃ x, x = (nx bs (0, false) 1).1 := ⟨_, rfl⟩
  obtain ⟨t1, et1⟩ : ∃ x, x = (nx bs (0, false) 1).2 := ⟨_, rfl⟩
  rw [← ex1] at s7
  rw [← et1] at rd
  have bx1 := nx1 hB (0, false)
  rw [← ex1] at bx1
  have ix1 := i64_id bx1
  have k2 := k2.grown gG (fun e => by injection e with e; omega)
  have hwB := Nat.le_trans hwB gG.size
  have z7 := z6.grown gG (fun x hx e => by injection e with e; omega)
  refine chainK 2 (cc rfl (p_cvE (n' := x1) ix1 g0 (od rfl id) cv_23_3)
      (cc rfl (p_move g0 (od rfl id)) cn)) (by kernel_rfl) s7 fun a8 w8 b8 s8 => ?_
  have z8 := z7.below b8
  have k2 := k2.below b8 k2.lt
  have rd := rd.below b8
  have hwB := Nat.le_trans hwB b8.size
  show wpList _ _ _ (_ :: _) _ _
  refine callO (R := fun v w' => v = .int .u64 (nx bs t1 2).1 ∧ Pk.RdAt w' g bs (nx bs t1 2).2.1 (nx bs t1 2).2.2 ∧ w8.grownBy w' (some g)) [.tmp 12, .const (.int .i64 2)] s8 (by simp [Region.wanted]) (fun _ _ => by kernel_rfl) rfl (by decide) (show Calls Try.prog 32 #[a8.tmps.getD 12 undef, .int .i64 2] w8 _ from by rw [show a8.tmps.getD 12 undef = ptrV g from s8.get 12 rfl]; exact (cNumS (s := t1) (n := 2) rd hB hm (by decide) (by decide)).mono fun e w' ⟨h1, h2⟩ => ⟨_, h1, rfl, h2⟩) (vvO 2 rfl (vvO 3 rfl (vvO 4 rfl (vvO 11 rfl vnO)))) fun v9 a9 w9 hR9 s9 => ?_
  obtain ⟨rfl, rd, gG⟩ := hR9
  obtain ⟨x2, ex2⟩ : ∃ x, x = (nx bs t1 2).1 := ⟨_, rfl⟩
  obtain ⟨t2, et2⟩ : ∃ x, x = (nx bs t1 2).2 := ⟨_, rfl⟩
  rw [← ex2] at s9
  rw [← et2] at rd
  have bx2 := nx2 hB t1
  rw [← ex2] at bx2
  have ix2 := i64_id bx2
  have k2 := k2.grown gG (fun e => by injection e with e; omega)
  have hwB := Nat.le_trans hwB gG.size
  have z9 := z8.grown gG (fun x hx e => by injection e with e; omega)
  refine chainK 2 (cc rfl (p_cvE (n' := x2) ix2 g0 (od rfl id) cv_23_3)
      (cc rfl (p_move g0 (od rfl id)) cn)) (by kernel_rfl) s9 fun a10 w10 b10 s10 => ?_
  have z10 := z9.below b10
  have k2 := k2.below b10 k2.lt
  have rd := rd.below b10
  have hwB := Nat.le_trans hwB b10.size
  show wpList _ _ _ (_ :: _) _ _
  refine callO (R := fun v w' => v = .int .u64 (nx bs t2 4).1 ∧ Pk.RdAt w' g bs (nx bs t2 4).2.1 (nx bs t2 4).2.2 ∧ w10.grownBy w' (some g)) [.tmp 15, .const (.int .i64 4)] s10 (by simp [Region.wanted]) (fun _ _ => by kernel_rfl) rfl (by decide) (show Calls Try.prog 32 #[a10.tmps.getD 15 undef, .int .i64 4] w10 _ from by rw [show a10.tmps.getD 15 undef = ptrV g from s10.get 15 rfl]; exact (cNumS (s := t2) (n := 4) rd hB hm (by decide) (by decide)).mono fun e w' ⟨h1, h2⟩ => ⟨_, h1, rfl, h2⟩) (vvO 2 rfl (vvO 3 rfl (vvO 4 rfl (vvO 11 rfl (vvO 14 rfl vnO))))) fun v11 a11 w11 hR11 s11 => ?_
  obtain ⟨rfl, rd, gG⟩ := hR11
  obtain ⟨x3, ex3⟩ : ∃ x, x = (nx bs t2 4).1 := ⟨_, rfl⟩
  obtain ⟨t3, et3⟩ : ∃ x, x = (nx bs t2 4).2 := ⟨_, rfl⟩
  rw [← ex3] at s11
  rw [← et3] at rd
  have bx3 := nx4 hB t2
  rw [← ex3] at bx3
  have ix3 := i64_id bx3
  have k2 := k2.grown gG (fun e => by injection e with e; omega)
  have hwB := Nat.le_trans hwB gG.size
  have z11 := z10.grown gG (fun x hx e => by injection e with e; omega)
  refine chainK 2 (cc rfl (p_cvE (n' := x3) ix3 g0 (od rfl id) cv_23_3)
      (cc rfl (p_bd59m g0 (od rfl id) (od rfl id) (od rfl id)) cn)) (by kernel_rfl) s11 fun a12 w12 b12 s12 => ?_
  have z12 := z11.below b12
  have k2 := k2.below b12 k2.lt
  have rd := rd.below b12
  have hwB := Nat.le_trans hwB b12.size
  show wpList _ _ _ (_ :: _) _ _
  refine alloc_onO (u := 59) (z := #[.int .i64 0, .int .i64 0, .int .i64 0, .slice none 0 0, .slice none 0 0]) s12 (by simp [Region.wanted]) rfl (by decide) (al_59 _ _) (vvO 2 rfl (vvO 3 rfl (vvO 4 rfl (vvO 18 rfl vnO)))) fun g5 a13 w13 k5 hg5 b13 s13 => ?_
  have hB5 : B ≤ g5 := by omega
  have k2 := k2.below b13 k2.lt
  have rd := rd.below b13
  have hwB := Nat.le_trans hwB b13.size
  have z13 := z12.below b13
  show wpList _ _ _ (_ :: _) _ _
  refine row_F (F' := noF) 5 18 s13 rfl rfl rfl rfl rfl k5 rfl sz_59 (by simp [Value.oneCell']) (vv 2 rfl (vv 3 rfl (vv 4 rfl (vv 5 rfl vn)))) (fun _ _ _ => fok_no _ _) fun a14 w14 kN gS s14 => ?_
  have k2 := k2.grown gS (fun e => by injection e with e; omega)
  have rd := rd_grownO rd gS (fun x e => by injection e with e; omega)
  have hwB := Nat.le_trans hwB gS.size
  have k5 : Blk w14 g5 59 #[.int .i64 x1, .int .i64 x2, .int .i64 x3, .slice none 0 0, .slice none 0 0] := kN
  have z14 := z13.grown gS (fun x hx e => by injection e with e; omega)
  refine wpList_done ?_
  refine wp_seq ?_
  refine wp_seq ?_
  refine wp_region_lit ?_
  refine with_stO (s14.keep (sc 2 rfl (sc 3 rfl (sc 4 rfl (sc 5 rfl sn))))) fun s14 => ?_
  refine chainK 1 (cc rfl (p_move g0 (od rfl id)) cn) (by kernel_rfl) s14 fun a15 w15 b15 s15 => ?_
  have z15 := z14.below b15
  have k2 := k2.below b15 k2.lt
  have rd := rd.below b15
  have hwB := Nat.le_trans hwB b15.size
  have k5 := k5.below b15 k5.lt
  show wpList _ _ _ (_ :: _) _ _
  refine callO (R := fun v w' => v = .int .u64 (nx bs t3 1).1 ∧ Pk.RdAt w' g bs (nx bs t3 1).2.1 (nx bs t3 1).2.2 ∧ w15.grownBy w' (some g)) [.tmp 19, .const (.int .i64 1)] s15 (by simp [Region.wanted]) (fun _ _ => by kernel_rfl) rfl (by decide) (show Calls Try.prog 32 #[a15.tmps.getD 19 undef, .int .i64 1] w15 _ from by rw [show a15.tmps.getD 19 undef = ptrV g from s15.get 19 rfl]; exact (cNumS (s := t3) (n := 1) rd hB hm (by decide) (by decide)).mono fun e w' ⟨h1, h2⟩ => ⟨_, h1, rfl, h2⟩) (vvO 2 rfl (vvO 3 rfl (vvO 4 rfl (vvO 5 rfl vnO)))) fun v16 a16 w16 hR16 s16 => ?_
  obtain ⟨rfl, rd, gG⟩ := hR16
  obtain ⟨x4, ex4⟩ : ∃ x, x = (nx bs t3 1).1 := ⟨_, rfl⟩
  obtain ⟨t4, et4⟩ : ∃ x, x = (nx bs t3 1).2 := ⟨_, rfl⟩
  rw [← ex4] at s16
  rw [← et4] at rd
  have bx4 := nx1 hB t3
  rw [← ex4] at bx4
  have ix4 := i64_id bx4
  have k2 := k2.grown gG (fun e => by injection e with e; omega)
  have hwB := Nat.le_trans hwB gG.size
  have k5 := k5.grown gG (fun e => by injection e with e; omega)
  have z16 := z15.grown gG (fun x hx e => by injection e with e; omega)
  refine chainK 2 (cc rfl (p_min g0 (od rfl id) (oc _) mn_23)
      (cc rfl (p_move g0 (oc _)) cn)) (by kernel_rfl) s16 fun a17 w17 b17 s17 => ?_
  have z17 := z16.below b17
  have k2 := k2.below b17 k2.lt
  have rd := rd.below b17
  have hwB := Nat.le_trans hwB b17.size
  have k5 := k5.below b17 k5.lt
  refine wpList_done ?_
  obtain ⟨n, hn⟩ : ∃ n : Nat, x4.toNat = n := ⟨_, rfl⟩
  have s17 := s17.more 21 (y := .int .u64 (n : Int)) (int_as (s17.get 21 rfl) (by omega))
  refine wp_cut (fun a wr => ∃ vs sl t5, manyR slR n bs t4 = (sl, t5) ∧ Pk.RdAt wr g bs t5.1 t5.2 ∧ Blk wr g2 59 #[.int .i64 0, .int .i64 0, .int .i64 0, .slice none 0 0, .slice none 0 0] ∧ Blk wr g5 59 #[.int .i64 x1, .int .i64 x2, .int .i64 x3, vs, .slice none 0 0] ∧ wr.ownsRow B 64 2 vs sl.length (sl.flatMap slE) ∧ B ≤ wr.heap.size ∧ OnlyB (fun _ => False) w wr ∧ StE False 67 [(2, true, .val (ptrV g2)), (3, true, .val (.int .i64 0)), (4, true, .val (ptrV g)), (5, true, .val (ptrV g5))] noF a wr) ?_ ?_
  · -- the loop
    refine wp_block ?_
    refine wp_countI n 22 (fun i a wr => ∃ vs sl s, manyR slR n bs t4 = (sl ++ (manyR slR (n - i) bs s).1, (manyR slR (n - i) bs s).2) ∧ sl.length = i ∧ Pk.RdAt wr g bs s.1 s.2 ∧ Blk wr g2 59 #[.int .i64 0, .int .i64 0, .int .i64 0, .slice none 0 0, .slice none 0 0] ∧ Blk wr g5 59 #[.int .i64 x1, .int .i64 x2, .int .i64 x3, vs, .slice none 0 0] ∧ wr.ownsRow B 64 2 vs sl.length (sl.flatMap slE) ∧ B ≤ wr.heap.size ∧ OnlyB (fun _ => False) w wr ∧ StE False 67 [(2, true, .val (ptrV g2)), (3, true, .val (.int .i64 0)), (4, true, .val (ptrV g)), (5, true, .val (ptrV g5)), (21, true, .int .u64 (n : Int)), (22, true, .int .u64 (i : Int))] noF a wr) (fun _ _ _ ⟨_, _, _, _, _, _, _, _, _, _, _, h⟩ => by rw [show _ = _ from h.get 22 rfl]; rfl) ⟨.slice none 0 0, [], t4, rfl, rfl, rd, k2, k5, World.ownsRow_nil _ _ _ _, hwB, z17, s17.to _ ⟨rfl, rfl, rfl, rfl, rfl, rfl, True.intro⟩⟩ fun i a18 w18 hi hI => ?_
    obtain ⟨vs, sl, s, heq, hlen, rd, k2, k5, ov, hwB, z18, s18⟩ := hI
    have hvs := (slice_oneO ov).1
    refine wp_seq ?_
    refine flowC mixed (s18.keep (sc 2 rfl (sc 3 rfl (sc 4 rfl (sc 5 rfl (sc 21 rfl (sc 22 rfl sn))))))) (by kernel_rfl) (by kernel_rfl) (cc rfl (p_bin g0 (od rfl id) (od rfl id) b_lss_23) cn) fun a19 w19 b19 s19 => ?_
    have z19 := z18.below b19
    have rd := rd.below b19
    have k2 := k2.below b19 k2.lt
    have k5 := k5.below b19 k5.lt
    have ov := own_below ov b19
    have hwB := Nat.le_trans hwB b19.size
    refine wp_seq ?_
    refine s19.cond 23 rfl (fun h23 => ?_) (fun h23 => ?_)
    · -- true
      have hin : i < n := by have := of_decide_eq_true h23; (try dsimp only at this); omega
      refine wp_skip ?_
      refine wp_seq ?_
      refine wp_block ?_
      refine wp_seq ?_
      refine wp_seq ?_
      refine wp_region_lit ?_
      refine with_stO (s19.keep (sc 2 rfl (sc 3 rfl (sc 4 rfl (sc 5 rfl (sc 21 rfl (sc 22 rfl sn))))))) fun s19 => ?_
      refine chainK 1 (cc rfl (p_move g0 (od rfl id)) cn) (by kernel_rfl) s19 fun a20 w20 b20 s20 => ?_
      have z20 := z19.below b20
      have rd := rd.below b20
      have k2 := k2.below b20 k2.lt
      have k5 := k5.below b20 k5.lt
      have ov := own_below ov b20
      have hwB := Nat.le_trans hwB b20.size
      show wpList _ _ _ (_ :: _) _ _
      refine callO (R := fun v w' => v = .bool s.2 ∧ Pk.RdAt w' g bs s.1 s.2 ∧ w20.grownBy w' (some g)) [.tmp 24] s20 (by simp [Region.wanted]) (fun _ _ => by kernel_rfl) rfl (by decide) (show Calls Try.prog 33 #[a20.tmps.getD 24 undef] w20 _ from by rw [show a20.tmps.getD 24 undef = ptrV g from s20.get 24 rfl]; exact (cBad rd).mono fun e w' ⟨h1, h2⟩ => ⟨_, h1, rfl, h2⟩) (vvO 2 rfl (vvO 3 rfl (vvO 4 rfl (vvO 5 rfl (vvO 21 rfl (vvO 22 rfl vnO)))))) fun v21 a21 w21 hR21 s21 => ?_
      obtain ⟨rfl, rd, gG⟩ := hR21
      have k2 := k2.grown gG (fun e => by injection e with e; omega)
      have k5 := k5.grown gG (fun e => by injection e with e; omega)
      have ov := own_grown ov gG hgB
      have hwB := Nat.le_trans hwB gG.size
      have z21 := z20.grown gG (fun x hx e => by injection e with e; omega)
      refine wpList_done ?_
      refine s21.cond 25 rfl (fun h25 => ?_) (fun h25 => ?_)
      · -- true
        have hbad : s.2 = true := h25
        have hend : manyR slR n bs t4 = (sl, s) := by rw [heq, many_bad hbad, List.append_nil]
        refine wp_exit ?_
        exact ⟨_, _, _, hend, rd, k2, k5, ov, hwB, z21, s21.to _ ⟨rfl, rfl, rfl, rfl, True.intro⟩⟩
      · -- false
        have hbad : s.2 = false := h25
        have hgo := heq
        rw [show n - i = (n - (i + 1)) + 1 by omega, many_go hbad] at hgo
        refine wp_skip ?_
        refine wp_seq ?_
        refine wp_region_lit ?_
        refine with_stO (s21.keep (sc 2 rfl (sc 3 rfl (sc 4 rfl (sc 5 rfl (sc 21 rfl (sc 22 rfl sn))))))) fun s21 => ?_
        refine chainK 1 (cc rfl (p_move g0 (od rfl id)) cn) (by kernel_rfl) s21 fun a22 w22 b22 s22 => ?_
        have z22 := z21.below b22
        have rd := rd.below b22
        have k2 := k2.below b22 k2.lt
        have k5 := k5.below b22 k5.lt
        have ov := own_below ov b22
        have hwB := Nat.le_trans hwB b22.size
        show wpList _ _ _ (_ :: _) _ _
        refine callO (R := fun v w' => v = .int .u64 (nx bs s 1).1 ∧ Pk.RdAt w' g bs (nx bs s 1).2.1 (nx bs s 1).2.2 ∧ w22.grownBy w' (some g)) [.tmp 26, .const (.int .i64 1)] s22 (by simp [Region.wanted]) (fun _ _ => by kernel_rfl) rfl (by decide) (show Calls Try.prog 32 #[a22.tmps.getD 26 undef, .int .i64 1] w22 _ from by rw [show a22.tmps.getD 26 undef = ptrV g from s22.get 26 rfl]; exact (cNumS (s := s) (n := 1) rd hB hm (by decide) (by decide)).mono fun e w' ⟨h1, h2⟩ => ⟨_, h1, rfl, h2⟩) (vvO 2 rfl (vvO 3 rfl (vvO 4 rfl (vvO 5 rfl (vvO 21 rfl (vvO 22 rfl vnO)))))) fun v23 a23 w23 hR23 s23 => ?_
        obtain ⟨rfl, rd, gG⟩ := hR23
        obtain ⟨y1, ey1⟩ : ∃ x, x = (nx bs s 1).1 := ⟨_, rfl⟩
        obtain ⟨s1, es1⟩ : ∃ x, x = (nx bs s 1).2 := ⟨_, rfl⟩
        rw [← ey1] at s23
        rw [← es1] at rd
        have by1 := nx1 hB s
        rw [← ey1] at by1
        have iy1 := i64_id by1
        have k2 := k2.grown gG (fun e => by injection e with e; omega)
        have k5 := k5.grown gG (fun e => by injection e with e; omega)
        have ov := own_grown ov gG hgB
        have hwB := Nat.le_trans hwB gG.size
        have z23 := z22.grown gG (fun x hx e => by injection e with e; omega)
        refine chainK 1 (cc rfl (p_assign g0 (od rfl id)) cn) (by kernel_rfl) s23 fun a24 w24 b24 s24 => ?_
        have z24 := z23.below b24
        have rd := rd.below b24
        have k2 := k2.below b24 k2.lt
        have k5 := k5.below b24 k5.lt
        have ov := own_below ov b24
        have hwB := Nat.le_trans hwB b24.size
        refine wpList_done ?_
        have s24 := s24.valsO (F' := AtB g) (fok_atO rd.lt) (vvO 2 rfl (vvO 3 rfl (vvO 4 rfl (vvO 5 rfl (vvO 21 rfl (vvO 22 rfl (vvO 6 rfl vnO)))))))
        have s24 := s24.more 5 (y := .bp g5 59 #[.int .i64 x1, .int .i64 x2, .int .i64 x3, vs, .slice none 0 0] 0) ⟨s24.get 5 rfl, k5, fun _ h => by have h : g5 = g := h; omega⟩
        have s24 := s24.keep (sc 2 rfl (sc 3 rfl (sc 4 rfl (sc 5 rfl (sc 21 rfl (sc 22 rfl (sc 6 rfl sn)))))))
        obtain ⟨y2, ey2⟩ : ∃ x, x = (nx bs s1 1).1 := ⟨_, rfl⟩
        obtain ⟨s2, es2⟩ : ∃ x, x = (nx bs s1 1).2 := ⟨_, rfl⟩
        have by2 := nx1 hB s1
        rw [← ey2] at by2
        have iy2 := i64_id by2
        have hr1 := sl_read ey1 es1 ey2 es2
        refine flowEV 8 4 g 32 (.int .u64 y2) (fun wr => Below w24.heap.size w24 wr) (fun v wr => Pk.RdAt wr g bs s2.1 s2.2) mixed s24 (fun _ => rfl) (Below.refl _ _) (fun h hb => h.trans (hb.mono h.size)) (fun h hb => h.below hb) (by kernel_rfl) rfl (cc rfl (p_faB fa_59_3 g0 (od rfl id))
            (cc rfl (p_ldB ld_53 rfl g0 (od rfl id))
            (cc rfl (p_move g0 (od rfl id))
            (cc rfl (p_move g0 (od rfl id)) cn)))) (by kernel_rfl) (cc rfl (p_cvE (n' := y2) iy2 g0 (od rfl id) cv_23_3)
            (cc rfl (p_bd64m g0 (od rfl id) (od rfl id))
            (cc rfl (p_lit slF bs_53 g0 (od rfl id)) cn))) (by kernel_rfl) (by kernel_rfl) (fun ac wc oc hoc hsz hf hknow hBel R hR => ?_) rfl fun a25 w25 gG hG s25 => ?_
        · obtain rfl := Option.some.inj hoc
          have q31 : ac.tmps.getD 31 undef = ptrV g := (hknow 31 (List.contains_iff_mem.1 (by kernel_rfl)) _ rfl).1 rfl
          refine call_wp 32 [.tmp 31, .const (.int .i64 1)] rfl (fun _ _ => by kernel_rfl) ?_
          rw [show List.map ac.eval [Operand.tmp 31, .const (.int .i64 1)] = [ptrV g, .int .i64 1] from by show [ac.tmps.getD 31 undef, Value.int .i64 1] = _; rw [q31]]
          exact (cNumS (s := s1) (n := 1) (rd.below hBel) hB hm (by decide) (by decide)).mono fun e' w' ⟨he, h1, h2⟩ => ⟨_, he, hR _ w' h2 (fun u => u.elim) (by rw [es2]; exact h1) (by rw [ey2]; rfl)⟩
        have rd := hG
        have k2 := k2.grown gG (fun e => by injection e with e; omega)
        have k5 := k5.grown gG (fun e => by injection e with e; omega)
        have ov := own_grown ov gG hgB
        have hwB := Nat.le_trans hwB gG.size
        obtain ⟨gl, q35, hlt, _⟩ := (s25.get 35 rfl).1
        have s25 := s25.more 5 (y := .val (ptrV g5)) (s25.get 5 rfl).1
        have s25 := s25.more 35 (y := .val (.slice (some ⟨gl, 0, none⟩) 1 1)) q35
        have s25 := s25.valsO (F' := noF) (fok_no _ w25) (vvO 2 rfl (vvO 3 rfl (vvO 4 rfl (vvO 5 rfl (vvO 21 rfl (vvO 22 rfl (vvO 29 rfl (vvO 35 rfl vnO))))))))
        have z25 := z24.grown gG (fun x hx e => by injection e with e; omega)
        show wpList _ _ _ (_ :: _ :: _ :: _) _ _
        show wpList _ _ _ (_ :: _) _ _
        have hbx : ∀ x, vs.ownBlock = some x → B ≤ x := fun x hx => own_base ov hx
        refine app_onO (cs := slE (y1, y2)) s25 rfl rfl (by decide) rfl Try.underlying53 hs0 hs1 hs2 hs3 rfl (by decide) ov (s25.get 29 rfl) (s25.get 35 rfl) hlt rfl (fun u hu => by simp at hu; rcases hu with rfl | rfl <;> rfl) (by unfold maxLen; omega) (by omega) hwB (vvO 2 rfl (vvO 3 rfl (vvO 4 rfl (vvO 5 rfl (vvO 21 rfl (vvO 22 rfl vnO)))))) fun vs2 a26 w26 ow2 gA _ s26 => ?_
        have k2 := k2.grown gA (own_ne ov k2 (by decide))
        have k5 := k5.grown gA (own_ne ov k5 (by decide))
        have rd := rd_grownO rd gA (fun x hx => Nat.lt_of_lt_of_le hgB (hbx x hx))
        have ow2 : w26.ownsRow B 64 2 vs2 (sl ++ [(y1, y2)]).length ((sl ++ [(y1, y2)]).flatMap slE) := by rw [List.length_append, List.flatMap_append]; simpa using ow2
        have hwB := Nat.le_trans hwB gA.size
        have z26 := z25.grown gA (fun x hx e => by have := hbx x e; omega)
        refine chainK 1 (cc rfl (p_faV0O fa_59_3 g0 (od rfl id)) cn) (by kernel_rfl) s26 fun a27 w27 b27 s27 => ?_
        have z27 := z26.below b27
        have rd := rd.below b27
        have k2 := k2.below b27 k2.lt
        have k5 := k5.below b27 k5.lt
        have hwB := Nat.le_trans hwB b27.size
        have ow2 := own_below ow2 b27
        show wpList _ _ _ (_ :: _) _ _
        refine cells_onO (vs := [vs2]) s27 rfl rfl rfl (s27.get 37 rfl) (s27.get 36 rfl) (slice_oneO ow2).2 k5 (by simp) sz_53 (fun u hu => by rw [List.mem_singleton.1 hu]; exact (slice_oneO ow2).1) (vvO 2 rfl (vvO 3 rfl (vvO 4 rfl (vvO 5 rfl (vvO 21 rfl (vvO 22 rfl vnO)))))) fun a28 w28 kN gS s28 => ?_
        have k2 := k2.grown gS (fun e => by injection e with e; omega)
        have rd := rd_grownO rd gS (fun x e => by injection e with e; omega)
        have ow2 := own_grown3 ow2 gS (own_ne ow2 k5 (by decide))
        have hwB := Nat.le_trans hwB gS.size
        have k5 : Blk w28 g5 59 #[.int .i64 x1, .int .i64 x2, .int .i64 x3, vs2, .slice none 0 0] := kN
        have z28 := z27.grown gS (fun x hx e => by injection e with e; omega)
        refine wpList_done ?_
        have ov := ow2
        have heq2 : manyR slR n bs t4 = ((sl ++ [(y1, y2)]) ++ (manyR slR (n - (i + 1)) bs s2).1, (manyR slR (n - (i + 1)) bs s2).2) := by rw [hgo, hr1, List.append_assoc]; rfl
        have hlen2 : (sl ++ [(y1, y2)]).length = i + 1 := by simp [hlen]
        refine flowT (s28.keep (sc 2 rfl (sc 3 rfl (sc 4 rfl (sc 5 rfl (sc 21 rfl (sc 22 rfl sn))))))) (by kernel_rfl) (cc rfl (p_binE (n' := ((i + 1 : Nat) : Int)) (by rw [IntKind.wrap_u64]; omega) g0 (od rfl id) (oc _) b_add_23)
            (cc rfl (p_move g0 (od rfl id)) cn)) fun a29 w29 b29 s29 => ?_
        have z29 := z28.below b29
        have rd := rd.below b29
        have k2 := k2.below b29 k2.lt
        have k5 := k5.below b29 k5.lt
        have hwB := Nat.le_trans hwB b29.size
        have ov := own_below ov b29
        exact ⟨hin, _, _, _, heq2, hlen2, rd, k2, k5, ov, hwB, z29, s29.to _ ⟨rfl, rfl, rfl, rfl, rfl, rfl, True.intro⟩⟩
    · -- false
      obtain rfl : i = n := by have := of_decide_eq_false h23; (try dsimp only at this); omega
      have hend : manyR slR i bs t4 = (sl, s) := by rw [heq, Nat.sub_self]; simp [manyR]
      refine wp_exit ?_
      exact ⟨_, _, _, hend, rd, k2, k5, ov, hwB, z19, s19.to _ ⟨rfl, rfl, rfl, rfl, True.intro⟩⟩
  · -- what comes then
    rintro a30 w30 ⟨vs, sl, t5, hsl, rd, k2, k5, ov, hwB, z30, s30⟩
    have hvs := (slice_oneO ov).1
    refine wp_seq ?_
    refine wp_seq ?_
    refine wp_region_lit ?_
    refine with_stO (s30.keep (sc 2 rfl (sc 3 rfl (sc 4 rfl (sc 5 rfl sn))))) fun s30 => ?_
    refine chainK 1 (cc rfl (p_move g0 (od rfl id)) cn) (by kernel_rfl) s30 fun a31 w31 b31 s31 => ?_
    have z31 := z30.below b31
    have rd := rd.below b31
    have k2 := k2.below b31 k2.lt
    have k5 := k5.below b31 k5.lt
    have ov := own_below ov b31
    have hwB := Nat.le_trans hwB b31.size
    show wpList _ _ _ (_ :: _) _ _
    refine callO (R := fun v w' => v = .int .u64 (nx bs t5 1).1 ∧ Pk.RdAt w' g bs (nx bs t5 1).2.1 (nx bs t5 1).2.2 ∧ w31.grownBy w' (some g)) [.tmp 39, .const (.int .i64 1)] s31 (by simp [Region.wanted]) (fun _ _ => by kernel_rfl) rfl (by decide) (show Calls Try.prog 32 #[a31.tmps.getD 39 undef, .int .i64 1] w31 _ from by rw [show a31.tmps.getD 39 undef = ptrV g from s31.get 39 rfl]; exact (cNumS (s := t5) (n := 1) rd hB hm (by decide) (by decide)).mono fun e w' ⟨h1, h2⟩ => ⟨_, h1, rfl, h2⟩) (vvO 2 rfl (vvO 3 rfl (vvO 4 rfl (vvO 5 rfl vnO)))) fun v32 a32 w32 hR32 s32 => ?_
    obtain ⟨rfl, rd, gG⟩ := hR32
    obtain ⟨x6, ex6⟩ : ∃ x, x = (nx bs t5 1).1 := ⟨_, rfl⟩
    obtain ⟨t6, et6⟩ : ∃ x, x = (nx bs t5 1).2 := ⟨_, rfl⟩
    rw [← ex6] at s32
    rw [← et6] at rd
    have bx6 := nx1 hB t5
    rw [← ex6] at bx6
    have ix6 := i64_id bx6
    have k2 := k2.grown gG (fun e => by injection e with e; omega)
    have k5 := k5.grown gG (fun e => by injection e with e; omega)
    have ov := own_grown ov gG hgB
    have hwB := Nat.le_trans hwB gG.size
    have z32 := z31.grown gG (fun x hx e => by injection e with e; omega)
    refine chainK 1 (cc rfl (p_move g0 (oc _)) cn) (by kernel_rfl) s32 fun a33 w33 b33 s33 => ?_
    have z33 := z32.below b33
    have rd := rd.below b33
    have k2 := k2.below b33 k2.lt
    have k5 := k5.below b33 k5.lt
    have ov := own_below ov b33
    have hwB := Nat.le_trans hwB b33.size
    refine wpList_done ?_
    obtain ⟨m, hm9⟩ : ∃ m : Nat, x6.toNat = m := ⟨_, rfl⟩
    have s33 := s33.more 40 (y := .int .u64 (m : Int)) (int_as (s33.get 40 rfl) (by omega))
    refine wp_cut (fun a wr => ∃ vo q t7, manyR obR m bs t6 = (q.map (·.1), t7) ∧ Pk.RdAt wr g bs t7.1 t7.2 ∧ Blk wr g2 59 #[.int .i64 0, .int .i64 0, .int .i64 0, .slice none 0 0, .slice none 0 0] ∧ Blk wr g5 59 #[.int .i64 x1, .int .i64 x2, .int .i64 x3, vs, vo] ∧ wr.ownsRow B 64 2 vs sl.length (sl.flatMap slE) ∧ ObsAt wr B vo q ∧ B ≤ wr.heap.size ∧ OnlyB (fun _ => False) w wr ∧ StE False 67 [(2, true, .val (ptrV g2)), (3, true, .val (.int .i64 0)), (4, true, .val (ptrV g)), (5, true, .val (ptrV g5))] noF a wr) ?_ ?_
    · -- the loop
      refine wp_block ?_
      refine wp_countI m 41 (fun i a wr => ∃ vo q s, manyR obR m bs t6 = (q.map (·.1) ++ (manyR obR (m - i) bs s).1, (manyR obR (m - i) bs s).2) ∧ q.length = i ∧ Pk.RdAt wr g bs s.1 s.2 ∧ Blk wr g2 59 #[.int .i64 0, .int .i64 0, .int .i64 0, .slice none 0 0, .slice none 0 0] ∧ Blk wr g5 59 #[.int .i64 x1, .int .i64 x2, .int .i64 x3, vs, vo] ∧ wr.ownsRow B 64 2 vs sl.length (sl.flatMap slE) ∧ ObsAt wr B vo q ∧ B ≤ wr.heap.size ∧ OnlyB (fun _ => False) w wr ∧ StE False 67 [(2, true, .val (ptrV g2)), (3, true, .val (.int .i64 0)), (4, true, .val (ptrV g)), (5, true, .val (ptrV g5)), (40, true, .int .u64 (m : Int)), (41, true, .int .u64 (i : Int))] noF a wr) (fun _ _ _ ⟨_, _, _, _, _, _, _, _, _, _, _, _, h⟩ => by rw [show _ = _ from h.get 41 rfl]; rfl) ⟨.slice none 0 0, [], t6, rfl, rfl, rd, k2, k5, ov, ObsAt.nil _ _, hwB, z33, s33.to _ ⟨rfl, rfl, rfl, rfl, rfl, rfl, True.intro⟩⟩ fun i a34 w34 hi hI => ?_
      obtain ⟨vo, q, s, heq, hlen, rd, k2, k5, ov, hq, hwB, z34, s34⟩ := hI
      have hvo := (slice_oneO hq.own).1
      refine wp_seq ?_
      refine flowC mixed (s34.keep (sc 2 rfl (sc 3 rfl (sc 4 rfl (sc 5 rfl (sc 40 rfl (sc 41 rfl sn))))))) (by kernel_rfl) (by kernel_rfl) (cc rfl (p_bin g0 (od rfl id) (od rfl id) b_lss_23) cn) fun a35 w35 b35 s35 => ?_
      have z35 := z34.below b35
      have rd := rd.below b35
      have k2 := k2.below b35 k2.lt
      have k5 := k5.below b35 k5.lt
      have ov := own_below ov b35
      have hq := hq.below b35
      have hwB := Nat.le_trans hwB b35.size
      refine wp_seq ?_
      refine s35.cond 42 rfl (fun h42 => ?_) (fun h42 => ?_)
      · -- true
        have hin : i < m := by have := of_decide_eq_true h42; (try dsimp only at this); omega
        refine wp_skip ?_
        refine wp_seq ?_
        refine wp_block ?_
        refine wp_seq ?_
        refine wp_seq ?_
        refine wp_region_lit ?_
        refine with_stO (s35.keep (sc 2 rfl (sc 3 rfl (sc 4 rfl (sc 5 rfl (sc 40 rfl (sc 41 rfl sn))))))) fun s35 => ?_
        refine chainK 1 (cc rfl (p_move g0 (od rfl id)) cn) (by kernel_rfl) s35 fun a36 w36 b36 s36 => ?_
        have z36 := z35.below b36
        have rd := rd.below b36
        have k2 := k2.below b36 k2.lt
        have k5 := k5.below b36 k5.lt
        have ov := own_below ov b36
        have hq := hq.below b36
        have hwB := Nat.le_trans hwB b36.size
        show wpList _ _ _ (_ :: _) _ _
        refine callO (R := fun v w' => v = .bool s.2 ∧ Pk.RdAt w' g bs s.1 s.2 ∧ w36.grownBy w' (some g)) [.tmp 43] s36 (by simp [Region.wanted]) (fun _ _ => by kernel_rfl) rfl (by decide) (show Calls Try.prog 33 #[a36.tmps.getD 43 undef] w36 _ from by rw [show a36.tmps.getD 43 undef = ptrV g from s36.get 43 rfl]; exact (cBad rd).mono fun e w' ⟨h1, h2⟩ => ⟨_, h1, rfl, h2⟩) (vvO 2 rfl (vvO 3 rfl (vvO 4 rfl (vvO 5 rfl (vvO 40 rfl (vvO 41 rfl vnO)))))) fun v37 a37 w37 hR37 s37 => ?_
        obtain ⟨rfl, rd, gG⟩ := hR37
        have k2 := k2.grown gG (fun e => by injection e with e; omega)
        have k5 := k5.grown gG (fun e => by injection e with e; omega)
        have ov := own_grown ov gG hgB
        have hq := hq.grown gG hgB
        have hwB := Nat.le_trans hwB gG.size
        have z37 := z36.grown gG (fun x hx e => by injection e with e; omega)
        refine wpList_done ?_
        refine s37.cond 44 rfl (fun h44 => ?_) (fun h44 => ?_)
        · -- true
          have hbad : s.2 = true := h44
          have hend : manyR obR m bs t6 = (q.map (·.1), s) := by rw [heq, many_bad hbad, List.append_nil]
          refine wp_exit ?_
          exact ⟨_, _, _, hend, rd, k2, k5, ov, hq, hwB, z37, s37.to _ ⟨rfl, rfl, rfl, rfl, True.intro⟩⟩
        · -- false
          have hbad : s.2 = false := h44
          have hgo := heq
          rw [show m - i = (m - (i + 1)) + 1 by omega, many_go hbad] at hgo
          refine wp_skip ?_
          have s37 := s37.valsO (F' := AtB g) (fok_atO rd.lt) (vvO 2 rfl (vvO 3 rfl (vvO 4 rfl (vvO 5 rfl (vvO 40 rfl (vvO 41 rfl vnO))))))
          have s37 := s37.more 5 (y := .bp g5 59 #[.int .i64 x1, .int .i64 x2, .int .i64 x3, vs, vo] 0) ⟨s37.get 5 rfl, k5, fun _ h => by have h : g5 = g := h; omega⟩
          have s37 := s37.keep (sc 2 rfl (sc 3 rfl (sc 4 rfl (sc 5 rfl (sc 40 rfl (sc 41 rfl sn))))))
          obtain ⟨o2, eo2⟩ : ∃ x, x = (obR bs s).1 := ⟨_, rfl⟩
          obtain ⟨s2, es2⟩ : ∃ x, x = (obR bs s).2 := ⟨_, rfl⟩
          have hokl := obR_okl bs s
          rw [← eo2] at hokl
          refine flowEV 5 3 g 48 (.obj B o2) (fun wr => Below w37.heap.size w37 wr) (fun v wr => Pk.RdAt wr g bs s2.1 s2.2) mixed s37 (fun _ => rfl) (Below.refl _ _) (fun h hb => h.trans (hb.mono h.size)) (fun h hb => h.below hb) (by kernel_rfl) rfl (cc rfl (p_faB fa_59_4 g0 (od rfl id))
              (cc rfl (p_ldB ld_57 rfl g0 (od rfl id))
              (cc rfl (p_move g0 (od rfl id)) cn))) (by kernel_rfl) (cc rfl (p_litO bs_57 g0 (od rfl id)) cn) (by kernel_rfl) (by kernel_rfl) (fun ac wc oc hoc hsz hf hknow hBel R hR => ?_) rfl fun a38 w38 gG hG s38 => ?_
          · obtain rfl := Option.some.inj hoc
            have q47 : ac.tmps.getD 47 undef = ptrV g := (hknow 47 (List.contains_iff_mem.1 (by kernel_rfl)) _ rfl).1 rfl
            refine call_wp 117 [.tmp 47] rfl (fun _ _ => by kernel_rfl) ?_
            rw [show List.map ac.eval [Operand.tmp 47] = [ptrV g] from by show [ac.tmps.getD 47 undef] = _; rw [q47]]
            refine (cRead (rd.below hBel) hB hm).mono ?_
            rintro e' w' ⟨vl, vc, vd, vm, rfl, ho, h1, h2⟩
            have hBw : B ≤ wc.heap.size := Nat.le_trans hwB hBel.size
            have hoE : ObE w' B (o2, (vl, vc, vd, vm)) := ⟨by rw [eo2]; exact ho.map fun _ h => own_mono h hBw, hokl.1, hokl.2⟩
            exact ⟨_, rfl, hR _ w' h2 (fun u => u.elim) (by rw [es2]; exact h1) ⟨(vl, vc, vd, vm), by rw [eo2], hoE, fun x hx i hf => by have hf : x = g := hf; have := ob_base hoE hx; omega⟩⟩
          have rd := hG
          have k2 := k2.grown gG (fun e => by injection e with e; omega)
          have k5 := k5.grown gG (fun e => by injection e with e; omega)
          have ov := own_grown ov gG hgB
          have hq := hq.grown gG hgB
          have hwB := Nat.le_trans hwB gG.size
          obtain ⟨u, gl, q49, hlt, _, _, hu⟩ := s38.get 49 rfl
          have s38 := s38.more 5 (y := .val (ptrV g5)) (s38.get 5 rfl).1
          have s38 := s38.more 49 (y := .val (.slice (some ⟨gl, 0, none⟩) 1 1)) q49
          have s38 := s38.valsO (F' := noF) (fok_no _ w38) (vvO 2 rfl (vvO 3 rfl (vvO 4 rfl (vvO 5 rfl (vvO 40 rfl (vvO 41 rfl (vvO 46 rfl (vvO 49 rfl vnO))))))))
          have z38 := z37.grown gG (fun x hx e => by injection e with e; omega)
          have hone := ob_ones hu
          show wpList _ _ _ (_ :: _ :: _ :: _) _ _
          show wpList _ _ _ (_ :: _) _ _
          have hbx : ∀ x, vo.ownBlock = some x → B ≤ x := fun x hx => own_base hq.own hx
          refine app_onO (cs := qO (o2, u)) s38 rfl rfl (by decide) rfl Try.underlying57 hz0 hz1 hz2 hz3 rfl (by decide) hq.own (s38.get 46 rfl) (s38.get 49 rfl) hlt rfl hone (by unfold maxLen; omega) (by omega) hwB (vvO 2 rfl (vvO 3 rfl (vvO 4 rfl (vvO 5 rfl (vvO 40 rfl (vvO 41 rfl vnO)))))) fun vo2 a39 w39 ow2 gA _ s39 => ?_
          have k2 := k2.grown gA (own_ne hq.own k2 (by decide))
          have k5 := k5.grown gA (own_ne hq.own k5 (by decide))
          have rd := rd_grownO rd gA (fun x hx => Nat.lt_of_lt_of_le hgB (hbx x hx))
          have ov := ov.kept gA (own_ne3O ov hq.own (by decide))
          have hq := hq.app hu ow2 gA
          have hwB := Nat.le_trans hwB gA.size
          have z39 := z38.grown gA (fun x hx e => by have := hbx x e; omega)
          refine chainK 1 (cc rfl (p_faV0O fa_59_4 g0 (od rfl id)) cn) (by kernel_rfl) s39 fun a40 w40 b40 s40 => ?_
          have z40 := z39.below b40
          have rd := rd.below b40
          have k2 := k2.below b40 k2.lt
          have k5 := k5.below b40 k5.lt
          have hwB := Nat.le_trans hwB b40.size
          have ov := own_below ov b40
          have hq := hq.below b40
          show wpList _ _ _ (_ :: _) _ _
          refine cells_onO (vs := [vo2]) s40 rfl rfl rfl (s40.get 51 rfl) (s40.get 50 rfl) (slice_oneO hq.own).2 k5 (by simp) sz_57 (fun u hu => by rw [List.mem_singleton.1 hu]; exact (slice_oneO hq.own).1) (vvO 2 rfl (vvO 3 rfl (vvO 4 rfl (vvO 5 rfl (vvO 40 rfl (vvO 41 rfl vnO)))))) fun a41 w41 kN gS s41 => ?_
          have k2 := k2.grown gS (fun e => by injection e with e; omega)
          have rd := rd_grownO rd gS (fun x e => by injection e with e; omega)
          have ov := own_grown3 ov gS (own_ne ov k5 (by decide))
          have hq := hq.blk k5 gS
          have hwB := Nat.le_trans hwB gS.size
          have k5 : Blk w41 g5 59 #[.int .i64 x1, .int .i64 x2, .int .i64 x3, vs, vo2] := kN
          have z41 := z40.grown gS (fun x hx e => by injection e with e; omega)
          refine wpList_done ?_
          have heq2 : manyR obR m bs t6 = ((q ++ [(o2, u)]).map (·.1) ++ (manyR obR (m - (i + 1)) bs s2).1, (manyR obR (m - (i + 1)) bs s2).2) := by rw [hgo, ← eo2, ← es2, List.map_append, List.append_assoc]; rfl
          have hlen2 : (q ++ [(o2, u)]).length = i + 1 := by simp [hlen]
          refine flowT (s41.keep (sc 2 rfl (sc 3 rfl (sc 4 rfl (sc 5 rfl (sc 40 rfl (sc 41 rfl sn))))))) (by kernel_rfl) (cc rfl (p_binE (n' := ((i + 1 : Nat) : Int)) (by rw [IntKind.wrap_u64]; omega) g0 (od rfl id) (oc _) b_add_23)
              (cc rfl (p_move g0 (od rfl id)) cn)) fun a42 w42 b42 s42 => ?_
          have z42 := z41.below b42
          have rd := rd.below b42
          have k2 := k2.below b42 k2.lt
          have k5 := k5.below b42 k5.lt
          have hwB := Nat.le_trans hwB b42.size
          have ov := own_below ov b42
          have hq := hq.below b42
          exact ⟨hin, _, _, _, heq2, hlen2, rd, k2, k5, ov, hq, hwB, z42, s42.to _ ⟨rfl, rfl, rfl, rfl, rfl, rfl, True.intro⟩⟩
      · -- false
        obtain rfl : i = m := by have := of_decide_eq_false h42; (try dsimp only at this); omega
        have hend : manyR obR i bs t6 = (q.map (·.1), s) := by rw [heq, Nat.sub_self]; simp [manyR]
        refine wp_exit ?_
        exact ⟨_, _, _, hend, rd, k2, k5, ov, hq, hwB, z35, s35.to _ ⟨rfl, rfl, rfl, rfl, True.intro⟩⟩
    · -- what comes then
      rintro a43 w43 ⟨vo, q, t7, hob, rd, k2, k5, ov, hq, hwB, z43, s43⟩
      have hvs := (slice_oneO ov).1
      have hvo := (slice_oneO hq.own).1
      refine wp_seq ?_
      refine wp_seq ?_
      have hcf := cf_read (t5 := t5) (t7 := t7) (sl := sl) (obs := q.map (·.1)) ex1 et1 ex2 et2 ex3 et3 ex4 et4 (by rw [hn]; exact hsl) ex6 et6 (by rw [hm9]; exact hob)
      obtain ⟨c0, ec0⟩ : ∃ c : Cf, c = ⟨x1, x2, x3, sl, q.map (·.1)⟩ := ⟨_, rfl⟩
      rw [← ec0] at hcf
      have hlsl : sl.length ≤ 255 := by have h : (manyR slR n bs t4).1.length ≤ n := many_len; rw [hsl] at h; dsimp only at h; omega
      have hlob : c0.obs.length ≤ 255 := by have h : (manyR obR m bs t6).1.length ≤ m := many_len; rw [hob] at h; rw [ec0]; dsimp only at h ⊢; omega
      have hmps : ∀ o ∈ c0.obs, o.mps.length ≤ maxLen := fun o ho => by have h : ∀ x ∈ (manyR obR m bs t6).1, x.mps.length ≤ 255 := many_all (fun s => obR_mps hB s); rw [hob] at h; rw [ec0] at ho; have := h o ho; unfold maxLen; omega
      have hsl2 : c0.sl.length ≤ maxLen := by rw [ec0]; unfold maxLen; dsimp only; omega
      cases hbad : t7.2 with
      | true =>
        refine wp_region_lit ?_
        refine with_stO (s43.keep (sc 2 rfl (sc 4 rfl (sc 5 rfl sn)))) fun s43 => ?_
        refine chainK 1 (cc rfl (p_move g0 (od rfl id)) cn) (by kernel_rfl) s43 fun a44 w44 b44 s44 => ?_
        have z44 := z43.below b44
        have rd := rd.below b44
        have k2 := k2.below b44 k2.lt
        have k5 := k5.below b44 k5.lt
        have ov := own_below ov b44
        have hwB := Nat.le_trans hwB b44.size
        have hq := hq.below b44
        show wpList _ _ _ (_ :: _) _ _
        refine callO (R := fun v w' => v = .bool t7.2 ∧ Pk.RdAt w' g bs t7.1 t7.2 ∧ w44.grownBy w' (some g)) [.tmp 53] s44 (by simp [Region.wanted]) (fun _ _ => by kernel_rfl) rfl (by decide) (show Calls Try.prog 33 #[a44.tmps.getD 53 undef] w44 _ from by rw [show a44.tmps.getD 53 undef = ptrV g from s44.get 53 rfl]; exact (cBad rd).mono fun e w' ⟨h1, h2⟩ => ⟨_, h1, rfl, h2⟩) (vvO 2 rfl (vvO 4 rfl (vvO 5 rfl vnO))) fun v45 a45 w45 hR45 s45 => ?_
        obtain ⟨rfl, rd, gG⟩ := hR45
        have k2 := k2.grown gG (fun e => by injection e with e; omega)
        have k5 := k5.grown gG (fun e => by injection e with e; omega)
        have ov := own_grown ov gG hgB
        have hwB := Nat.le_trans hwB gG.size
        have hq := hq.grown gG hgB
        have z45 := z44.grown gG (fun x hx e => by injection e with e; omega)
        have s45 := s45.more 54 (y := .bool true) (bool_as (s45.get 54 rfl) (hbad))
        refine chainK 10 (cc rfl (p_move g0 (od rfl id))
            (cc rfl (p_dead (g1 rfl rfl) (y := .any) rfl)
            (cc rfl (p_dead (g1 rfl rfl) (y := .any) rfl)
            (cc rfl (p_dead (g1 rfl rfl) (y := .bool false) rfl)
            (cc rfl (p_or g0 (od rfl id) (od rfl id))
            (cc rfl (p_move g0 (od rfl id))
            (cc rfl (p_dead (g1 rfl rfl) (y := .any) rfl)
            (cc rfl (p_dead (g1 rfl rfl) (y := .any) rfl)
            (cc rfl (p_dead (g1 rfl rfl) (y := .bool false) rfl)
            (cc rfl (p_or g0 (od rfl id) (od rfl id)) cn)))))))))) (by kernel_rfl) s45 fun a46 w46 b46 s46 => ?_
        have z46 := z45.below b46
        have rd := rd.below b46
        have k2 := k2.below b46 k2.lt
        have k5 := k5.below b46 k5.lt
        have ov := own_below ov b46
        have hwB := Nat.le_trans hwB b46.size
        have hq := hq.below b46
        refine wpList_done ?_
        refine s46.cond 64 rfl (fun _ => ?_) (fun h => absurd h (by simp))
        refine wp_seq ?_
        refine wp_region_lit ?_
        refine with_stO (s46.keep (sc 2 rfl sn)) fun s46 => ?_
        refine chainK 1 (cc rfl (p_done (y := .val _) bd59z (fun _ _ => rfl) g0) cn) (by kernel_rfl) s46 fun a47 w47 b47 s47 => ?_
        have z47 := z46.below b47
        have rd := rd.below b47
        have k2 := k2.below b47 k2.lt
        have k5 := k5.below b47 k5.lt
        have ov := own_below ov b47
        have hwB := Nat.le_trans hwB b47.size
        have hq := hq.below b47
        show wpList _ _ _ (_ :: _) _ _
        refine row_F (F' := noF) 2 65 s47 rfl rfl rfl rfl rfl k2 rfl sz_59 (by simp [Value.oneCell']) (vv 2 rfl vn) (fun _ _ _ => fok_no _ _) fun a48 w48 kN gS s48 => ?_
        have k5 := k5.grown gS (fun e => by injection e with e; omega)
        have ov := own_grown3 ov gS (own_ne ov k2 (by decide))
        have hq := hq.blk k2 gS
        have hwB := Nat.le_trans hwB gS.size
        have k2 : Blk w48 g2 59 #[.int .i64 0, .int .i64 0, .int .i64 0, .slice none 0 0, .slice none 0 0] := kN
        have z48 := z47.grown gS (fun x hx e => by injection e with e; omega)
        refine chainK 1 (cc rfl (p_assign g0 (oc _)) cn) (by kernel_rfl) s48 fun a49 w49 b49 s49 => ?_
        have z49 := z48.below b49
        have k2 := k2.below b49 k2.lt
        have k5 := k5.below b49 k5.lt
        have ov := own_below ov b49
        have hwB := Nat.le_trans hwB b49.size
        have hq := hq.below b49
        refine wpList_done ?_
        have hdec : decV bs = (cfZ, 10) := by unfold decV; rw [hcf, if_pos (.inl hbad)]
        rw [hdec]
        have zb := z49.to_below (fun _ _ h => h) (Nat.le_refl _)
        have s49 := s49.valsO (F' := F) (hF.below zb) (vvO 2 rfl (vvO 3 rfl vnO))
        exact wp_ret (ret_cell2 (fn := Try.f96) s49 2 3 rfl rfl rfl u_59 ur_59 sz_59 k2 (cf_of nil_of nil_of) (fun _ h => h) zb)
      | false =>
        by_cases hrest : t7.1 < bs.length
        · -- more
          refine wp_region_lit ?_
          refine with_stO (s43.keep (sc 2 rfl (sc 4 rfl (sc 5 rfl sn)))) fun s43 => ?_
          refine chainK 1 (cc rfl (p_move g0 (od rfl id)) cn) (by kernel_rfl) s43 fun a50 w50 b50 s50 => ?_
          have z50 := z43.below b50
          have rd := rd.below b50
          have k2 := k2.below b50 k2.lt
          have k5 := k5.below b50 k5.lt
          have ov := own_below ov b50
          have hwB := Nat.le_trans hwB b50.size
          have hq := hq.below b50
          show wpList _ _ _ (_ :: _) _ _
          refine callO (R := fun v w' => v = .bool t7.2 ∧ Pk.RdAt w' g bs t7.1 t7.2 ∧ w50.grownBy w' (some g)) [.tmp 53] s50 (by simp [Region.wanted]) (fun _ _ => by kernel_rfl) rfl (by decide) (show Calls Try.prog 33 #[a50.tmps.getD 53 undef] w50 _ from by rw [show a50.tmps.getD 53 undef = ptrV g from s50.get 53 rfl]; exact (cBad rd).mono fun e w' ⟨h1, h2⟩ => ⟨_, h1, rfl, h2⟩) (vvO 2 rfl (vvO 4 rfl (vvO 5 rfl vnO))) fun v51 a51 w51 hR51 s51 => ?_
          obtain ⟨rfl, rd, gG⟩ := hR51
          have k2 := k2.grown gG (fun e => by injection e with e; omega)
          have k5 := k5.grown gG (fun e => by injection e with e; omega)
          have ov := own_grown ov gG hgB
          have hwB := Nat.le_trans hwB gG.size
          have hq := hq.grown gG hgB
          have z51 := z50.grown gG (fun x hx e => by injection e with e; omega)
          have s51 := s51.more 54 (y := .bool false) (bool_as (s51.get 54 rfl) (hbad))
          refine chainK 2 (cc rfl (p_move g0 (od rfl id))
              (cc rfl (p_move (g1 rfl rfl) (od rfl (fun _ => rfl))) cn)) (by kernel_rfl) s51 fun a52 w52 b52 s52 => ?_
          have z52 := z51.below b52
          have rd := rd.below b52
          have k2 := k2.below b52 k2.lt
          have k5 := k5.below b52 k5.lt
          have ov := own_below ov b52
          have hwB := Nat.le_trans hwB b52.size
          have hq := hq.below b52
          show wpList _ _ _ (_ :: _) _ _
          refine callO (R := fun v w' => v = .int .i64 ((bs.length : Int) - t7.1) ∧ Pk.RdAt w' g bs t7.1 t7.2 ∧ w52.grownBy w' (some g)) [.tmp 56] s52 (Eq.trans (s52.wanted (g1 rfl rfl) rfl) rfl) (fun _ _ => by kernel_rfl) rfl (by decide) (show Calls Try.prog 34 #[a52.tmps.getD 56 undef] w52 _ from by rw [show a52.tmps.getD 56 undef = ptrV g from s52.get 56 rfl]; exact (cRest rd hm).mono fun e w' ⟨h1, h2⟩ => ⟨_, h1, rfl, h2⟩) (vvO 2 rfl (vvO 4 rfl (vvO 5 rfl (vvO 55 rfl vnO)))) fun v53 a53 w53 hR53 s53 => ?_
          obtain ⟨rfl, rd, gG⟩ := hR53
          have k2 := k2.grown gG (fun e => by injection e with e; omega)
          have k5 := k5.grown gG (fun e => by injection e with e; omega)
          have ov := own_grown ov gG hgB
          have hwB := Nat.le_trans hwB gG.size
          have hq := hq.grown gG hgB
          have z53 := z52.grown gG (fun x hx e => by injection e with e; omega)
          refine chainK 1 (cc rfl (p_bin (g1 rfl rfl) (od rfl (fun _ => rfl)) (oc _) b_gtr_3) cn) (by kernel_rfl) s53 fun a54 w54 b54 s54 => ?_
          have z54 := z53.below b54
          have rd := rd.below b54
          have k2 := k2.below b54 k2.lt
          have k5 := k5.below b54 k5.lt
          have ov := own_below ov b54
          have hwB := Nat.le_trans hwB b54.size
          have hq := hq.below b54
          have s54 := s54.more 58 (y := .bool true) (bool_as (s54.get 58 rfl) (by rw [decide_eq_true_eq]; omega))
          refine chainK 6 (cc rfl (p_or g0 (od rfl id) (od rfl id))
              (cc rfl (p_move g0 (od rfl id))
              (cc rfl (p_dead (g1 rfl rfl) (y := .any) rfl)
              (cc rfl (p_dead (g1 rfl rfl) (y := .any) rfl)
              (cc rfl (p_dead (g1 rfl rfl) (y := .bool false) rfl)
              (cc rfl (p_or g0 (od rfl id) (od rfl id)) cn)))))) (by kernel_rfl) s54 fun a55 w55 b55 s55 => ?_
          have z55 := z54.below b55
          have rd := rd.below b55
          have k2 := k2.below b55 k2.lt
          have k5 := k5.below b55 k5.lt
          have ov := own_below ov b55
          have hwB := Nat.le_trans hwB b55.size
          have hq := hq.below b55
          refine wpList_done ?_
          refine s55.cond 64 rfl (fun _ => ?_) (fun h => absurd h (by simp))
          refine wp_seq ?_
          refine wp_region_lit ?_
          refine with_stO (s55.keep (sc 2 rfl sn)) fun s55 => ?_
          refine chainK 1 (cc rfl (p_done (y := .val _) bd59z (fun _ _ => rfl) g0) cn) (by kernel_rfl) s55 fun a56 w56 b56 s56 => ?_
          have z56 := z55.below b56
          have rd := rd.below b56
          have k2 := k2.below b56 k2.lt
          have k5 := k5.below b56 k5.lt
          have ov := own_below ov b56
          have hwB := Nat.le_trans hwB b56.size
          have hq := hq.below b56
          show wpList _ _ _ (_ :: _) _ _
          refine row_F (F' := noF) 2 65 s56 rfl rfl rfl rfl rfl k2 rfl sz_59 (by simp [Value.oneCell']) (vv 2 rfl vn) (fun _ _ _ => fok_no _ _) fun a57 w57 kN gS s57 => ?_
          have k5 := k5.grown gS (fun e => by injection e with e; omega)
          have ov := own_grown3 ov gS (own_ne ov k2 (by decide))
          have hq := hq.blk k2 gS
          have hwB := Nat.le_trans hwB gS.size
          have k2 : Blk w57 g2 59 #[.int .i64 0, .int .i64 0, .int .i64 0, .slice none 0 0, .slice none 0 0] := kN
          have z57 := z56.grown gS (fun x hx e => by injection e with e; omega)
          refine chainK 1 (cc rfl (p_assign g0 (oc _)) cn) (by kernel_rfl) s57 fun a58 w58 b58 s58 => ?_
          have z58 := z57.below b58
          have k2 := k2.below b58 k2.lt
          have k5 := k5.below b58 k5.lt
          have ov := own_below ov b58
          have hwB := Nat.le_trans hwB b58.size
          have hq := hq.below b58
          refine wpList_done ?_
          have hdec : decV bs = (cfZ, 10) := by unfold decV; rw [hcf, if_pos (.inr (.inl hrest))]
          rw [hdec]
          have zb := z58.to_below (fun _ _ h => h) (Nat.le_refl _)
          have s58 := s58.valsO (F' := F) (hF.below zb) (vvO 2 rfl (vvO 3 rfl vnO))
          exact wp_ret (ret_cell2 (fn := Try.f96) s58 2 3 rfl rfl rfl u_59 ur_59 sz_59 k2 (cf_of nil_of nil_of) (fun _ h => h) zb)
        · -- all
          refine wp_region_lit ?_
          refine with_stO (s43.keep (sc 2 rfl (sc 4 rfl (sc 5 rfl sn)))) fun s43 => ?_
          refine chainK 1 (cc rfl (p_move g0 (od rfl id)) cn) (by kernel_rfl) s43 fun a59 w59 b59 s59 => ?_
          have z59 := z43.below b59
          have rd := rd.below b59
          have k2 := k2.below b59 k2.lt
          have k5 := k5.below b59 k5.lt
          have ov := own_below ov b59
          have hwB := Nat.le_trans hwB b59.size
          have hq := hq.below b59
          show wpList _ _ _ (_ :: _) _ _
          refine callO (R := fun v w' => v = .bool t7.2 ∧ Pk.RdAt w' g bs t7.1 t7.2 ∧ w59.grownBy w' (some g)) [.tmp 53] s59 (by simp [Region.wanted]) (fun _ _ => by kernel_rfl) rfl (by decide) (show Calls Try.prog 33 #[a59.tmps.getD 53 undef] w59 _ from by rw [show a59.tmps.getD 53 undef = ptrV g from s59.get 53 rfl]; exact (cBad rd).mono fun e w' ⟨h1, h2⟩ => ⟨_, h1, rfl, h2⟩) (vvO 2 rfl (vvO 4 rfl (vvO 5 rfl vnO))) fun v60 a60 w60 hR60 s60 => ?_
          obtain ⟨rfl, rd, gG⟩ := hR60
          have k2 := k2.grown gG (fun e => by injection e with e; omega)
          have k5 := k5.grown gG (fun e => by injection e with e; omega)
          have ov := own_grown ov gG hgB
          have hwB := Nat.le_trans hwB gG.size
          have hq := hq.grown gG hgB
          have z60 := z59.grown gG (fun x hx e => by injection e with e; omega)
          have s60 := s60.more 54 (y := .bool false) (bool_as (s60.get 54 rfl) (hbad))
          refine chainK 2 (cc rfl (p_move g0 (od rfl id))
              (cc rfl (p_move (g1 rfl rfl) (od rfl (fun _ => rfl))) cn)) (by kernel_rfl) s60 fun a61 w61 b61 s61 => ?_
          have z61 := z60.below b61
          have rd := rd.below b61
          have k2 := k2.below b61 k2.lt
          have k5 := k5.below b61 k5.lt
          have ov := own_below ov b61
          have hwB := Nat.le_trans hwB b61.size
          have hq := hq.below b61
          show wpList _ _ _ (_ :: _) _ _
          refine callO (R := fun v w' => v = .int .i64 ((bs.length : Int) - t7.1) ∧ Pk.RdAt w' g bs t7.1 t7.2 ∧ w61.grownBy w' (some g)) [.tmp 56] s61 (Eq.trans (s61.wanted (g1 rfl rfl) rfl) rfl) (fun _ _ => by kernel_rfl) rfl (by decide) (show Calls Try.prog 34 #[a61.tmps.getD 56 undef] w61 _ from by rw [show a61.tmps.getD 56 undef = ptrV g from s61.get 56 rfl]; exact (cRest rd hm).mono fun e w' ⟨h1, h2⟩ => ⟨_, h1, rfl, h2⟩) (vvO 2 rfl (vvO 4 rfl (vvO 5 rfl (vvO 55 rfl vnO)))) fun v62 a62 w62 hR62 s62 => ?_
          obtain ⟨rfl, rd, gG⟩ := hR62
          have k2 := k2.grown gG (fun e => by injection e with e; omega)
          have k5 := k5.grown gG (fun e => by injection e with e; omega)
          have ov := own_grown ov gG hgB
          have hwB := Nat.le_trans hwB gG.size
          have hq := hq.grown gG hgB
          have z62 := z61.grown gG (fun x hx e => by injection e with e; omega)
          refine chainK 1 (cc rfl (p_bin (g1 rfl rfl) (od rfl (fun _ => rfl)) (oc _) b_gtr_3) cn) (by kernel_rfl) s62 fun a63 w63 b63 s63 => ?_
          have z63 := z62.below b63
          have rd := rd.below b63
          have k2 := k2.below b63 k2.lt
          have k5 := k5.below b63 k5.lt
          have ov := own_below ov b63
          have hwB := Nat.le_trans hwB b63.size
          have hq := hq.below b63
          have s63 := s63.more 58 (y := .bool false) (bool_as (s63.get 58 rfl) (by rw [decide_eq_false_iff_not]; omega))
          refine chainK 2 (cc rfl (p_or g0 (od rfl id) (od rfl id))
              (cc rfl (p_move g0 (od rfl id)) cn)) (by kernel_rfl) s63 fun a64 w64 b64 s64 => ?_
          have z64 := z63.below b64
          have rd := rd.below b64
          have k2 := k2.below b64 k2.lt
          have k5 := k5.below b64 k5.lt
          have ov := own_below ov b64
          have hwB := Nat.le_trans hwB b64.size
          have hq := hq.below b64
          have s64 := s64.more 5 (y := .both (.val (ptrV g5)) (.at cfL c0)) ⟨s64.get 5 rfl, at_blk k5 (by rw [ec0]; exact cf_cells ov hq (fun _ h => h.elim)) (s64.get 5 rfl)⟩
          refine chainK 1 (cc rfl (p_load u_59 ur_59 sz_59 (g1 rfl rfl) (od2 rfl (fun _ => rfl))) cn) (by kernel_rfl) s64 fun a65 w65 b65 s65 => ?_
          have z65 := z64.below b65
          have rd := rd.below b65
          have k2 := k2.below b65 k2.lt
          have k5 := k5.below b65 k5.lt
          have ov := own_below ov b65
          have hwB := Nat.le_trans hwB b65.size
          have hq := hq.below b65
          show wpList _ _ _ (_ :: _) _ _
          have s65 := s65.more 5 (y := .val (ptrV g5)) (s65.get 5 rfl).1
          refine callO (R := fun v w' => v = .bool (rightC c0) ∧ Below w65.heap.size w65 w') [.tmp 61] s65 (Eq.trans (s65.wanted (g1 rfl rfl) rfl) rfl) (fun _ _ => by kernel_rfl) rfl (by decide) (show Calls Try.prog 46 #[a65.tmps.getD 61 undef] w65 _ from calls1 (f46 (by omega) hsl2 hmps) (s65.get 61 rfl)) (vvO 2 rfl (vvO 5 rfl (vvO 60 rfl vnO))) fun v66 a66 w66 hR66 s66 => ?_
          obtain ⟨rfl, b66⟩ := hR66
          have rd := rd.below b66
          have k2 := k2.below b66 k2.lt
          have k5 := k5.below b66 k5.lt
          have ov := own_below ov b66
          have hwB := Nat.le_trans hwB b66.size
          have hq := hq.below b66
          have z66 := z65.below b66
          refine chainK 2 (cc rfl (p_not (g1 rfl rfl) (od rfl (fun _ => rfl)))
              (cc rfl (p_or g0 (od rfl id) (od rfl id)) cn)) (by kernel_rfl) s66 fun a67 w67 b67 s67 => ?_
          have z67 := z66.below b67
          have rd := rd.below b67
          have k2 := k2.below b67 k2.lt
          have k5 := k5.below b67 k5.lt
          have ov := own_below ov b67
          have hwB := Nat.le_trans hwB b67.size
          have hq := hq.below b67
          refine wpList_done ?_
          refine s67.cond 64 rfl (fun h64 => ?_) (fun h64 => ?_)
          · -- true
            have hrt : rightC c0 = false := by simpa using h64
            refine wp_seq ?_
            refine wp_region_lit ?_
            refine with_stO (s67.keep (sc 2 rfl sn)) fun s67 => ?_
            refine chainK 1 (cc rfl (p_done (y := .val _) bd59z (fun _ _ => rfl) g0) cn) (by kernel_rfl) s67 fun a68 w68 b68 s68 => ?_
            have z68 := z67.below b68
            have rd := rd.below b68
            have k2 := k2.below b68 k2.lt
            have k5 := k5.below b68 k5.lt
            have ov := own_below ov b68
            have hwB := Nat.le_trans hwB b68.size
            have hq := hq.below b68
            show wpList _ _ _ (_ :: _) _ _
            refine row_F (F' := noF) 2 65 s68 rfl rfl rfl rfl rfl k2 rfl sz_59 (by simp [Value.oneCell']) (vv 2 rfl vn) (fun _ _ _ => fok_no _ _) fun a69 w69 kN gS s69 => ?_
            have k5 := k5.grown gS (fun e => by injection e with e; omega)
            have ov := own_grown3 ov gS (own_ne ov k2 (by decide))
            have hq := hq.blk k2 gS
            have hwB := Nat.le_trans hwB gS.size
            have k2 : Blk w69 g2 59 #[.int .i64 0, .int .i64 0, .int .i64 0, .slice none 0 0, .slice none 0 0] := kN
            have z69 := z68.grown gS (fun x hx e => by injection e with e; omega)
            refine chainK 1 (cc rfl (p_assign g0 (oc _)) cn) (by kernel_rfl) s69 fun a70 w70 b70 s70 => ?_
            have z70 := z69.below b70
            have k2 := k2.below b70 k2.lt
            have k5 := k5.below b70 k5.lt
            have ov := own_below ov b70
            have hwB := Nat.le_trans hwB b70.size
            have hq := hq.below b70
            refine wpList_done ?_
            have hdec : decV bs = (cfZ, 10) := by unfold decV; rw [hcf, if_pos (.inr (.inr hrt))]
            rw [hdec]
            have zb := z70.to_below (fun _ _ h => h) (Nat.le_refl _)
            have s70 := s70.valsO (F' := F) (hF.below zb) (vvO 2 rfl (vvO 3 rfl vnO))
            exact wp_ret (ret_cell2 (fn := Try.f96) s70 2 3 rfl rfl rfl u_59 ur_59 sz_59 k2 (cf_of nil_of nil_of) (fun _ h => h) zb)
          · -- false
            have hrt : rightC c0 = true := by simpa using h64
            refine wp_skip ?_
            refine wp_seq ?_
            refine wp_region_lit ?_
            refine with_stO (s67.keep (sc 2 rfl (sc 5 rfl sn))) fun s67 => ?_
            show wpList _ _ _ (_ :: _) _ _
            refine ldrowV_on s67 rfl rfl (by decide) rfl (od rfl id) k5 u_59 ur_59 sz_59 fun a71 s71 => ?_
            have z71 := z67
            show wpList _ _ _ (_ :: _) _ _
            refine row_F (F' := noF) 2 66 s71 rfl rfl rfl rfl rfl k2 rfl sz_59 (cf_ones hvs hvo) (vv 2 rfl vn) (fun _ _ _ => fok_no _ _) fun a72 w72 kN gS s72 => ?_
            have k5 := k5.grown gS (fun e => by injection e with e; omega)
            have ov := own_grown3 ov gS (own_ne ov k2 (by decide))
            have hq := hq.blk k2 gS
            have hwB := Nat.le_trans hwB gS.size
            have k2 : Blk w72 g2 59 #[.int .i64 x1, .int .i64 x2, .int .i64 x3, vs, vo] := kN
            have z72 := z71.grown gS (fun x hx e => by injection e with e; omega)
            refine chainK 1 (cc rfl (p_assign g0 (oc _)) cn) (by kernel_rfl) s72 fun a73 w73 b73 s73 => ?_
            have z73 := z72.below b73
            have k2 := k2.below b73 k2.lt
            have k5 := k5.below b73 k5.lt
            have ov := own_below ov b73
            have hwB := Nat.le_trans hwB b73.size
            have hq := hq.below b73
            refine wpList_done ?_
            have hdec : decV bs = (c0, 0) := by unfold decV; rw [hcf, if_neg (fun h => h.elim (fun h => by rw [hbad] at h; cases h) fun h => h.elim (fun h => hrest h) fun h => by rw [hrt] at h; cases h)]
            rw [hdec]
            have zb := z73.to_below (fun _ _ h => h) (Nat.le_refl _)
            have s73 := s73.valsO (F' := F) (hF.below zb) (vvO 2 rfl (vvO 3 rfl vnO))
            exact wp_ret (ret_cell2 (fn := Try.f96) s73 2 3 rfl rfl rfl u_59 ur_59 sz_59 k2 (by rw [ec0]; exact cf_cells ov hq (fun k hk => by have := hF.lt k hk; omega)) (fun _ h => h) zb))
end Go.Proofs.Ytihddficgpjgpaa.Y
