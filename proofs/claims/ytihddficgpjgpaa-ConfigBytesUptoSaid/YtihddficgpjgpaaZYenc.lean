/- Yenc: a configuration's bytes -/
import Derived.Test.YtihddficgpjgpaaZYplb
import Derived.Test.YtihddficgpjgpaaZYcod
namespace Go.Proofs.Ytihddficgpjgpaa.Y
open Go.RowKit Go.ChangeShapes Go.WideShapes Go.ChangeAt
section
variable {U : Prop} {P : Program} {Q : Exit → Act → World → Prop} {N : Nat} {e : Env} {F : Cell → Prop} {a : Act} {w : World}
/-- A fresh row of a region grows by a list at the region's end. -/
theorem own_appS {ops : Array Oper} {rest : List Oper} {o : Oper} {α : Type} {L : Lay α} {enc : α → List Value} {T E : TypeId} {l l2 : List α} {y1 : Sym} {i : TypeInfo} {z : Value} {bytes d : Nat} {e1 : Env} {a1 : Act} {w1 : World} {x y : Operand} (hf : Flat L enc) (h1 : StE U N e1 F a1 w1) (h : StE U N e F a w) (hb : Below w1.heap.size w1 w)
    (ho : o.op = .call { callee := .builtin .append, args := #[x, y], argTypes := #[T, T] }) (hd : o.dst = some d) (hdN : decide (d < N) = true) (hgd : o.guard = none)
    (ht : P.underlying T = some (.slice E)) (hi : P.info? E = some i) (hz : i.zero = some z) (hsize : i.size = L.n) (hby : i.bytes = bytes) (hzs : z.cells.size = L.n) (hsz : 0 < L.n)
    (hx : OpdE e true x (.both (.own w1.heap.size E L.n l.length (l.flatMap enc)) y1)) (hy : OpdE e true y (.one (Lay.sl L) l2)) (h63 : l.length + l2.length ≤ maxLen) (hbytes : (l.length + l2.length) * bytes ≤ 140737488355328)
    (hQ : ∀ a' w', Below w1.heap.size w1 w' → StE U N [(d, true, .one (Lay.sl L) (l ++ l2))] F a' w' → wpList P ops Q rest a' w') : wpList P ops Q (o :: rest) a w := by
  obtain ⟨hown, _⟩ := (hx a w F (fun s _ => h.known s) rfl).1
  obtain ⟨A, cp, e2, hr, _⟩ := reads_of_sl hf (hy a w F (fun s _ => h.known s) rfl)
  refine wpList_plain hgd fun K hK => ?_
  refine wp_append_any w x y T ho w1.heap.size E i z L.n bytes ht hi hz hsize hby hzs hsz (a.eval x) l.length _ rfl hown w.heap.size A l2.length cp _ e2 hr (hf.ones l2) h63 hbytes hb.size fun v' w' h2 h3 _ => hK _ _ ?_
  have hb' : Below w1.heap.size w1 w' := hb.grown h3 hb.size fun k e => own_base hown e
  have hown' : w'.ownsRow w1.heap.size E L.n v' (l ++ l2).length ((l ++ l2).flatMap enc) := by rw [List.length_append, List.flatMap_append]; exact h2
  have hsl := sl_of_own (F := F) hf hown' fun g o hg _ hF => by
    have := own_base hown' hg
    have := h1.fok.lt (g, o) hF
    simp only at this
    omega
  rw [hd]
  refine hQ _ w' hb' ⟨by simp [Act.put, h.size], h.defers, h1.fok.below hb', fun s k hk => ?_⟩
  rw [List.lookup_cons] at hk
  cases hs : s == d with
  | false => rw [hs] at hk; cases hk
  | true =>
    rw [hs] at hk
    simp at hk hs
    subst hs hk
    have hdN' : s < N := by simpa using hdN
    have : (a.put (some s) v').tmps.getD s undef = v' := by simp [Act.put, h.size, hdN']
    rw [this]
    exact ⟨fun _ => hsl, fun e => by cases e⟩
end
section
variable {d : Nat} {t : TypeId} {p : String} {af : Array Edge} {g : Option (Nat × Bool)} {x x2 : Operand}
theorem bx_67 : BoxRun Try.prog ⟨some d, .box 67 x, t, p, af, g⟩ x 67 := fun ev w cs h1 => by go_simp
theorem cv_id {a : Int} (h : IntKind.u64.wrap a = a) : Run1 Try.prog ⟨some d, .convert 3 23 x, t, p, af, g⟩ x (.int .i64 a) (.int .u64 a) := fun ev w h1 => by
  have := cv_3_23 (d := d) (t := t) (p := p) (af := af) (g := g) (x := x) (a := a) ev w h1
  rwa [h] at this
theorem bd153 {x3 x4 x5 : Operand} {a b c d' e' : Int} : ∀ (ev : Operand → Value) (w : World), ev x = .int .u64 a → ev x2 = .int .u64 b → ev x3 = .int .u64 c → ev x4 = .int .u64 d' → ev x5 = .int .u64 e' → (execOp ev ⟨some d, .build 153 #[(0, x), (1, x2), (2, x3), (3, x4), (4, x5)], t, p, af, g⟩).run Try.prog w = .ok (.value (.agg #[.int .u64 a, .int .u64 b, .int .u64 c, .int .u64 d', .int .u64 e'])) w := fun ev w h1 h2 h3 h4 h5 => by go_simp
theorem ix153 {a b c d' e' : Int} {i : Nat} {v : Int} (hi : [a, b, c, d', e'][i]? = some v) : ∀ (ev : Operand → Value) (w : World), ev x = .agg #[.int .u64 a, .int .u64 b, .int .u64 c, .int .u64 d', .int .u64 e'] → ev x2 = .int .i64 i → (execOp ev ⟨some d, .index 153 x x2, t, p, af, g⟩).run Try.prog w = .ok (.value (.int .u64 v)) w := fun ev w h1 h2 => by
  have hu : Try.prog.underlying 153 = some (.array 5 23) := by kernel_rfl
  match i, hi with
  | 0, hi => simp at hi; subst hi; simp [execOp, h1, h2, Instr.index, run_underlying hu, asIntOf, go_sem]
  | 1, hi => simp at hi; subst hi; simp [execOp, h1, h2, Instr.index, run_underlying hu, asIntOf, go_sem]
  | 2, hi => simp at hi; subst hi; simp [execOp, h1, h2, Instr.index, run_underlying hu, asIntOf, go_sem]
  | 3, hi => simp at hi; subst hi; simp [execOp, h1, h2, Instr.index, run_underlying hu, asIntOf, go_sem]
  | 4, hi => simp at hi; subst hi; simp [execOp, h1, h2, Instr.index, run_underlying hu, asIntOf, go_sem]
section
variable {U : Prop} {ops : Array Oper} {Q : Exit → Act → World → Prop} {N : Nat} {e : Env} {c : Bool}
theorem p_bd153 {x3 x4 x5 : Operand} {a b c' d' e' : Int} (hg : GdE ops e g c) (hx : OpdE e c x (.int .u64 a)) (hx2 : OpdE e c x2 (.int .u64 b)) (hx3 : OpdE e c x3 (.int .u64 c')) (hx4 : OpdE e c x4 (.int .u64 d')) (hx5 : OpdE e c x5 (.int .u64 e')) : Pays U Try.prog ops Q N e ⟨some d, .build 153 #[(0, x), (1, x2), (2, x3), (3, x4), (4, x5)], t, p, af, g⟩ (c, .val (.agg #[.int .u64 a, .int .u64 b, .int .u64 c', .int .u64 d', .int .u64 e'])) :=
  pVal hg fun e a w F hk => ⟨_, bd153 _ w (hx a w F (fun s hs => hk s (by simp [Op.operands, hs])) e) (hx2 a w F (fun s hs => hk s (by simp [Op.operands, hs])) e) (hx3 a w F (fun s hs => hk s (by simp [Op.operands, hs])) e) (hx4 a w F (fun s hs => hk s (by simp [Op.operands, hs])) e) (hx5 a w F (fun s hs => hk s (by simp [Op.operands, hs])) e), rfl⟩
theorem p_ix153 {a b c' d' e' : Int} {i : Nat} {v : Int} (hi : [a, b, c', d', e'][i]? = some v) (hg : GdE ops e g c) (hx : OpdE e c x (.val (.agg #[.int .u64 a, .int .u64 b, .int .u64 c', .int .u64 d', .int .u64 e']))) (hx2 : OpdE e c x2 (.int .i64 i)) : Pays U Try.prog ops Q N e ⟨some d, .index 153 x x2, t, p, af, g⟩ (c, .int .u64 v) :=
  pVal hg fun e a w F hk => ⟨_, ix153 hi _ w (hx a w F (fun s hs => hk s (by simp [Op.operands, hs])) e) (hx2 a w F (fun s hs => hk s (by simp [Op.operands, hs])) e), rfl⟩
end
end
theorem fn_past {U : Prop} {P : Program} {f : FuncId} {B : Nat} {y0 y : Sym} {ys : List Sym} (h : Fn U P f (y0 :: ys) y) : Fn U P f (.both (.past B) y0 :: ys) (.both (.past B) y) := fun w F vs hl ho hF => by
  match vs, hl, ho with
  | v0 :: vs, hl, ho =>
    have h0 := ho 0 v0 _ rfl rfl
    refine (h w F (v0 :: vs) hl (fun i v y' hv hy => ?_) hF).mono ?_
    · cases i with
      | zero => simp at hv hy; subst hv hy; exact h0.2
      | succ i => exact ho (i + 1) v y' hv hy
    · rintro e w' ⟨v, h1, h2, h3⟩
      exact ⟨v, h1, ⟨Nat.le_trans h0.1 h3.size, h2⟩, h3⟩
theorem u64_id {x : Int} {n : Int} (h : 0 ≤ x ∧ x < n) (hn : n ≤ 4294967296 := by decide) : IntKind.u64.wrap x = x := by rw [IntKind.wrap_u64]; omega
def obH (bs : List Int) (o : Ob) : List Int := bs ++ Pk.putL 1 o.k ++ Pk.putL 1 o.par ++ labB o.lab
theorem obH_split (bs : List Int) (o : Ob) : bs ++ obB o = obH bs o ++ bdB o.k (obTup o).2.2.2 := by unfold obH obB; simp only [List.append_assoc]
theorem mapB_length (m : M) : (mapB m).length = 10 := by unfold mapB; simp only [List.length_append, Pk.putL_length]
theorem mapsB_length : ∀ l : List M, (l.flatMap mapB).length = 10 * l.length
  | [] => rfl
  | m :: t => by rw [List.flatMap_cons, List.length_append, mapB_length, mapsB_length t, List.length_cons]; omega
theorem puts2_length : ∀ l : List Int, (l.flatMap (Pk.putL 2)).length = 2 * l.length
  | [] => rfl
  | m :: t => by rw [List.flatMap_cons, List.length_append, Pk.putL_length, puts2_length t, List.length_cons]; omega
abbrev fiveL (m : M) : List Int := [m.pa, m.sg, m.fr, m.nn, if m.wr then 1 else 0]
theorem mapB_five (m : M) : mapB m = (fiveL m).flatMap (Pk.putL 2) := by unfold mapB; simp
theorem flat_succ {α : Type} {l : List α} {f : α → List Int} {i : Nat} {x : α} (h : l[i]? = some x) : (l.take (i + 1)).flatMap f = (l.take i).flatMap f ++ f x := by
  obtain ⟨hi, rfl⟩ := List.getElem?_eq_some_iff.1 h
  rw [List.take_succ_eq_append_getElem hi, List.flatMap_append]
  simp
theorem enc1 {bs : List Int} {o : Ob} (h : o.k = 1) : obH bs o ++ Pk.putL 2 o.pg ++ Pk.putL 4 o.nm = bs ++ obB o := by rw [obH_split]; unfold bdB; rw [if_pos h]; simp only [List.append_assoc]; rfl
theorem enc2 {bs : List Int} {o : Ob} (h : o.k = 2) : obH bs o ++ Pk.putL 1 o.pg ++ Pk.putL 2 (o.dat.length : Int) ++ o.dat = bs ++ obB o := by rw [obH_split]; unfold bdB; rw [if_neg (by omega), if_pos h]; simp only [List.append_assoc]; rfl
theorem enc4 {bs : List Int} {o : Ob} (h : o.k = 4) : obH bs o ++ Pk.putL 1 (o.mps.length : Int) ++ o.mps.flatMap mapB = bs ++ obB o := by rw [obH_split]; unfold bdB; rw [if_neg (by omega), if_neg (by omega), if_pos h]; simp only [List.append_assoc]; rfl
theorem enc3 {bs : List Int} {o : Ob} (h : o.k = 3 ∨ o.k = 5) : obH bs o ++ labB o.clr ++ Pk.putL 1 o.sp ++ Pk.putL 4 o.pc = bs ++ obB o := by rw [obH_split]; unfold bdB; rw [if_neg (by omega), if_neg (by omega), if_neg (by omega), if_pos h]; simp only [List.append_assoc]; rfl
theorem enc6 {bs : List Int} {o : Ob} (h1 : ¬ o.k = 1) (h2 : ¬ o.k = 2) (h4 : ¬ o.k = 4) (h3 : ¬ (o.k = 3 ∨ o.k = 5)) : obH bs o = bs ++ obB o := by rw [obH_split]; unfold bdB; rw [if_neg h1, if_neg h2, if_neg h4, if_neg h3, List.append_nil]
structure OkB (o : Ob) : Prop where
  b1 : o.k = 1 → In2 o.pg ∧ In4 o.nm
  b2 : o.k = 2 → In1 o.pg ∧ In2 (o.dat.length : Int) ∧ Pk.Byt o.dat
  b4 : o.k = 4 → In1 (o.mps.length : Int) ∧ ∀ m ∈ o.mps, TellM m
  b3 : o.k = 3 ∨ o.k = 5 → Tell o.clr ∧ In1 o.sp ∧ In4 o.pc
theorem okb_of {o : Ob} (h : TellO o) : OkB o := by
  have hb := h.bd
  unfold okBd at hb
  refine ⟨fun e => ?_, fun e => ?_, fun e => ?_, fun e => ?_⟩
  · rw [if_pos e] at hb; exact hb.1
  · rw [if_neg (by omega), if_pos e] at hb; exact hb.1
  · rw [if_neg (by omega), if_neg (by omega), if_pos e] at hb; exact hb.1
  · rw [if_neg (by omega), if_neg (by omega), if_neg (by omega), if_pos e] at hb; exact hb.1
attribute [local simp] Pk.putL_length labB_len mapsB_length puts2_length
set_option maxHeartbeats 1600000 in
set_option maxRecDepth 100000 in
theorem f116 {U : Prop} {bs : List Int} {o : Ob} (hT : TellO o) (hl : (bs ++ obB o).length ≤ 100000) : Fn U Try.prog 116 [.by bs, .st obL o] (.by (bs ++ obB o)) := fn2 fun w F v0 v1 h0 h1 hF => by
  obtain ⟨i1, hj0, hj1, hj2, hj3⟩ := info_parts Try.info5
  have hO := okb_of hT
  have hlab := hT.lab.len
  have ek := u64_id hT.k
  have ep := u64_id hT.par
  have hlH := hl
  rw [obH_split, List.length_append] at hlH
  have hH : (obH bs o).length ≤ 100000 := by omega
  have hb : bs.length ≤ 99996 := by have h2 := hH; simp [obH, Pk.putL_length, labB_len] at h2; omega
  go_enter Try.func116, Try.ntmps116
  refine wp_seq ?_
  refine flowC mixed (st0 (U := U) (N := 104) (e := [(0, true, .by bs), (1, true, .st obL o)]) (F := F) rfl rfl hF ⟨⟨rfl, h0⟩, ⟨⟨rfl, h1⟩, True.intro⟩⟩) (by kernel_rfl) (by kernel_rfl) (cc rfl (p_box bx_67 g0 (od rfl id))
      (cc rfl (p_assign g0 (oc _)) cn)) fun a1 w1 b1 s1 => ?_
  have z1 := b1
  refine wp_seq ?_
  refine flowR 12 mixed (s1.keep (sc 0 rfl (sc 3 rfl (sc 4 rfl sn)))) (by kernel_rfl) (by kernel_rfl) (cc rfl (p_move g0 (od rfl id))
      (cc rfl (p_fieldAddr pt67_0 fa_67_0 g0 (od rfl id))
      (cc rfl (p_loadI ld_3 g0 (od rfl id))
      (cc rfl (p_conv g0 (od rfl id) (cv_id ek))
      (cc rfl (p_call 29 g0 (ox (od rfl id) (ox (oc _) (ox (od rfl id) ox0))) (fun _ _ => by kernel_rfl) (f29 (n := 1) (by first | omega | (simp; omega) | simp) (by decide)))
      (cc rfl (p_fieldAddr pt67_1 fa_67_1 g0 (od rfl id))
      (cc rfl (p_loadI ld_3 g0 (od rfl id))
      (cc rfl (p_conv g0 (od rfl id) (cv_id ep))
      (cc rfl (p_call 29 g0 (ox (od rfl id) (ox (oc _) (ox (od rfl id) ox0))) (fun _ _ => by kernel_rfl) (f29 (n := 1) (by first | omega | (simp; omega) | simp) (by decide)))
      (cc rfl (p_fieldAddr pt67_2 fa_67_2 g0 (od rfl id))
      (cc rfl (p_load Try.underlying39 rfl sz_39 g0 (od rfl id))
      (cc rfl (p_call 37 g0 (ox (od rfl id) (ox (od rfl id) ox0)) (fun _ _ => by kernel_rfl) (f37b (by first | omega | (simp; omega) | simp) (by decide))) cn)))))))))))) fun a2 w2 b2 s2 => ?_
  have z2 := z1.trans (b2.mono z1.size)
  refine chainT (t := []) (cc rfl (p_assign g0 (od rfl id)) cn) (by kernel_rfl) s2 fun a3 w3 b3 s3 => wpList_done ?_
  have z3 := z2.trans (b3.mono z2.size)
  have s3 := s3.more 0 (y := .by (obH bs o)) (s3.get 0 rfl)
  refine wp_seq ?_
  refine wp_seq ?_
  refine flowC mixed (s3.keep (sc 0 rfl (sc 3 rfl (sc 4 rfl sn)))) (by kernel_rfl) (by kernel_rfl) (cc rfl (p_fieldAddr pt67_0 fa_67_0 g0 (od rfl id))
      (cc rfl (p_loadI ld_3 g0 (od rfl id)) cn)) fun a4 w4 b4 s4 => ?_
  have z4 := z3.trans (b4.mono z3.size)
  refine wp_block ?_
  refine wp_seq ?_
  refine flowC mixed (s4.keep (sc 0 rfl (sc 3 rfl (sc 4 rfl (sc 23 rfl sn))))) (by kernel_rfl) (by kernel_rfl) (cc rfl (p_bin g0 (od rfl id) (oc _) b_eql_3)
      (cc rfl (p_assign g0 (od rfl id)) cn)) fun a5 w5 b5 s5 => ?_
  have z5 := z4.trans (b5.mono z4.size)
  refine s5.cond 24 rfl (fun h24 => ?_) (fun h24 => ?_)
  · -- true
    have p1 : o.k = 1 := by simpa using h24
    obtain ⟨q1, q2⟩ := hO.b1 p1
    have eg := u64_id q1
    have en := u64_id q2
    refine flowR 9 mixed (s5.keep (sc 0 rfl (sc 3 rfl (sc 4 rfl sn)))) (by kernel_rfl) (by kernel_rfl) (cc rfl (p_move g0 (od rfl id))
        (cc rfl (p_fieldAddr pt67_4 fa_67_4 g0 (od rfl id))
        (cc rfl (p_loadI ld_3 g0 (od rfl id))
        (cc rfl (p_conv g0 (od rfl id) (cv_id eg))
        (cc rfl (p_call 29 g0 (ox (od rfl id) (ox (oc _) (ox (od rfl id) ox0))) (fun _ _ => by kernel_rfl) (f29 (n := 2) (by first | omega | (simp; omega) | simp) (by decide)))
        (cc rfl (p_fieldAddr pt67_5 fa_67_5 g0 (od rfl id))
        (cc rfl (p_loadI ld_3 g0 (od rfl id))
        (cc rfl (p_conv g0 (od rfl id) (cv_id en))
        (cc rfl (p_call 29 g0 (ox (od rfl id) (ox (oc _) (ox (od rfl id) ox0))) (fun _ _ => by kernel_rfl) (f29 (n := 4) (by first | omega | (simp; omega) | simp) (by decide))) cn))))))))) fun a6 w6 b6 s6 => ?_
    have z6 := z5.trans (b6.mono z5.size)
    refine chainT (t := []) (cc rfl (p_assign g0 (od rfl id)) cn) (by kernel_rfl) s6 fun a7 w7 b7 s7 => wpList_done ?_
    have z7 := z6.trans (b7.mono z6.size)
    refine wp_seq ?_
    refine flowT (s7.keep (sc 0 rfl (sc 4 rfl sn))) (by kernel_rfl) (cc rfl (p_move g0 (od rfl id))
        (cc rfl (p_assign g0 (od rfl id)) cn)) fun a8 w8 b8 s8 => ?_
    have z8 := z7.trans (b8.mono z7.size)
    have s8 := s8.more 4 (y := .by (bs ++ obB o)) (by rw [← enc1 p1]; exact s8.get 4 rfl)
    exact wp_ret (ret_tmp (fn := Try.f116) s8 4 rfl rfl (fun _ h => h) z8)
  · -- false
    have p1 : ¬ o.k = 1 := by simpa using h24
    refine wp_seq ?_
    refine flowC mixed (s5.keep (sc 0 rfl (sc 3 rfl (sc 4 rfl (sc 23 rfl sn))))) (by kernel_rfl) (by kernel_rfl) (cc rfl (p_bin g0 (od rfl id) (oc _) b_eql_3)
        (cc rfl (p_assign g0 (od rfl id)) cn)) fun a9 w9 b9 s9 => ?_
    have z9 := z5.trans (b9.mono z5.size)
    refine s9.cond 35 rfl (fun h35 => ?_) (fun h35 => ?_)
    · -- true
      have p2 : o.k = 2 := by simpa using h35
      obtain ⟨q1, q2, q3⟩ := hO.b2 p2
      have eg := u64_id q1
      have ed := u64_id q2
      have s9 := s9.more 0 (y := .both (.past w9.heap.size) (.by (obH bs o))) ⟨Nat.le_refl _, s9.get 0 rfl⟩
      refine flowR 12 mixed (s9.keep (sc 0 rfl (sc 3 rfl sn))) (by kernel_rfl) (by kernel_rfl) (cc rfl (p_move g0 (od rfl id))
          (cc rfl (p_fieldAddr pt67_4 fa_67_4 g0 (od rfl id))
          (cc rfl (p_loadI ld_3 g0 (od rfl id))
          (cc rfl (p_conv g0 (od rfl id) (cv_id eg))
          (cc rfl (p_call 29 g0 (ox (od rfl id) (ox (oc _) (ox (od rfl id) ox0))) (fun _ _ => by kernel_rfl) (fn_past (f29 (n := 1) (by first | omega | (simp; omega) | simp) (by decide))))
          (cc rfl (p_fieldAddr pt67_6 fa_67_6 g0 (od rfl id))
          (cc rfl (p_load1 rfl ld_22 g0 (od rfl id))
          (cc rfl (p_len ln_22 g0 (od rfl id))
          (cc rfl (p_conv g0 (od rfl id) (cv_id ed))
          (cc rfl (p_call 29 g0 (ox (od rfl id) (ox (oc _) (ox (od rfl id) ox0))) (fun _ _ => by kernel_rfl) (f29own (n := 2) (by first | omega | (simp; omega) | simp) (by decide)))
          (cc rfl (p_fieldAddr pt67_6 fa_67_6 g0 (od rfl id))
          (cc rfl (p_load1 rfl ld_22 g0 (od rfl id)) cn)))))))))))) fun a10 w10 b10 s10 => ?_
      show wpList _ _ _ (_ :: _) _ _
      refine own_appS byF s9 s10 b10 rfl rfl (by decide) rfl Try.underlying22 hj0 hj1 hj2 hj3 rfl (by decide) (od rfl id) (od rfl id) (by unfold maxLen; first | omega | (simp; omega) | simp) (by first | omega | (simp; omega) | simp) fun a11 w11 b11 s11 => ?_
      have z11 := z9.trans (b11.mono z9.size)
      refine chainT (t := []) (cc rfl (p_assign g0 (od rfl id)) cn) (by kernel_rfl) s11 fun a12 w12 b12 s12 => wpList_done ?_
      have z12 := z11.trans (b12.mono z11.size)
      refine wp_seq ?_
      refine flowC mixed (s12.keep (sc 0 rfl sn)) (by kernel_rfl) (by kernel_rfl) (cc rfl (p_move g0 (od rfl id))
          (cc rfl (p_assign g0 (od rfl id)) cn)) fun a13 w13 b13 s13 => ?_
      have z13 := z12.trans (b13.mono z12.size)
      have s13 := s13.more 4 (y := .by (bs ++ obB o)) (by rw [← enc2 p2]; exact s13.get 4 rfl)
      exact wp_ret (ret_tmp (fn := Try.f116) s13 4 rfl rfl (fun _ h => h) z13)
    · -- false
      have p2 : ¬ o.k = 2 := by simpa using h35
      refine wp_seq ?_
      refine flowC mixed (s9.keep (sc 0 rfl (sc 3 rfl (sc 4 rfl (sc 23 rfl sn))))) (by kernel_rfl) (by kernel_rfl) (cc rfl (p_bin g0 (od rfl id) (oc _) b_eql_3)
          (cc rfl (p_assign g0 (od rfl id)) cn)) fun a14 w14 b14 s14 => ?_
      have z14 := z9.trans (b14.mono z9.size)
      refine s14.cond 50 rfl (fun h50 => ?_) (fun h50 => ?_)
      · -- true
        have p4 : o.k = 4 := by simpa using h50
        obtain ⟨q1, q2⟩ := hO.b4 p4
        have em := u64_id q1
        have hml : o.mps.length < 256 := by have := q1.2; omega
        refine wp_seq ?_
        refine flowT (s14.keep (sc 0 rfl (sc 3 rfl (sc 4 rfl sn)))) (by kernel_rfl) (cc rfl (p_move g0 (od rfl id))
            (cc rfl (p_fieldAddr pt67_7 fa_67_7 g0 (od rfl id))
            (cc rfl (p_load1 rfl ld_65 g0 (od rfl id))
            (cc rfl (p_len ln_65 g0 (od rfl id))
            (cc rfl (p_conv g0 (od rfl id) (cv_id em))
            (cc rfl (p_call 29 g0 (ox (od rfl id) (ox (oc _) (ox (od rfl id) ox0))) (fun _ _ => by kernel_rfl) (f29 (n := 1) (by first | omega | (simp; omega) | simp) (by decide)))
            (cc rfl (p_assign g0 (od rfl id)) cn))))))) fun a15 w15 b15 s15 => ?_
        have z15 := z14.trans (b15.mono z14.size)
        refine wp_seq ?_
        refine flowC mixed (s15.keep (sc 0 rfl (sc 3 rfl (sc 4 rfl sn)))) (by kernel_rfl) (by kernel_rfl) (cc rfl (p_fieldAddr pt67_7 fa_67_7 g0 (od rfl id))
            (cc rfl (p_load1 rfl ld_65 g0 (od rfl id))
            (cc rfl (p_len ln_65 g0 (od rfl id))
            (cc rfl (p_move g0 (oc _)) cn)))) fun a16 w16 b16 s16 => ?_
        have z16 := z15.trans (b16.mono z15.size)
        have s16 := s16.more 0 (y := .by (obH bs o ++ Pk.putL 1 (o.mps.length : Int) ++ (o.mps.take 0).flatMap mapB)) (by simpa using s16.get 0 rfl)
        refine wp_block ?_
        refine wp_range o.mps.length 61 (fun i => [(0, true, .by (obH bs o ++ Pk.putL 1 (o.mps.length : Int) ++ (o.mps.take i).flatMap mapB))]) (fun _ _ => True) (s16.keep (sc 61 rfl (sc 0 rfl (sc 4 rfl (sc 59 rfl (sc 60 rfl sn)))))) z16 True.intro fun i a17 w17 hi1 s17 z17 x17 => ?_
        refine wp_seq ?_
        refine flowC mixed (s17.keep (sc 0 rfl (sc 4 rfl (sc 59 rfl (sc 60 rfl (sc 61 rfl sn)))))) (by kernel_rfl) (by kernel_rfl) (cc rfl (p_bin g0 (od rfl id) (od rfl id) b_lss_3) cn) fun a18 w18 b18 s18 => ?_
        have z18 := z17.trans (b18.mono z17.size)
        refine wp_seq ?_
        refine s18.cond 62 rfl (fun h62 => ?_) (fun h62 => ?_)
        · -- true
          have hlt1 : i < o.mps.length := by simpa using h62
          obtain ⟨m, em1⟩ : ∃ x, o.mps[i]? = some x := ⟨_, List.getElem?_eq_getElem hlt1⟩
          have hm := q2 m (List.mem_of_getElem? em1)
          have e1 := u64_id hm.pa
          have e2 := u64_id hm.fr
          have e3 := u64_id hm.nn
          refine wp_skip ?_
          refine wp_seq ?_
          refine wp_block ?_
          refine wp_seq ?_
          refine flowQ 3 mixed (s18.keep (sc 0 rfl (sc 4 rfl (sc 59 rfl (sc 60 rfl (sc 61 rfl (sc 62 rfl sn))))))) (by kernel_rfl) (by kernel_rfl) (cc rfl (p_index ix_65 em1 g0 (od rfl id) (od rfl id))
              (cc rfl (p_load u_145 ur_145 sz_145 g0 (od rfl id))
              (ca rfl (m_alloc al_145 nu145) cn))) (by kernel_rfl) (ss rfl rfl rfl rfl puts_st sz_145 rfl rfl ss0) fun a19 w19 b19 s19 => ?_
          have z19 := z18.trans (b19.mono z18.size)
          refine wp_seq ?_
          refine flowC mixed (s19.keep (sc 0 rfl (sc 4 rfl (sc 6 rfl (sc 59 rfl (sc 60 rfl (sc 61 rfl (sc 62 rfl (sc 63 rfl (sc 64 rfl sn)))))))))) (by kernel_rfl) (by kernel_rfl) (cc rfl (p_assign g0 (oc _)) cn) fun a20 w20 b20 s20 => ?_
          have z20 := z19.trans (b20.mono z19.size)
          refine wp_seq ?_
          refine wp_seq ?_
          refine flowC mixed (s20.keep (sc 0 rfl (sc 4 rfl (sc 6 rfl (sc 7 rfl (sc 59 rfl (sc 60 rfl (sc 61 rfl (sc 62 rfl (sc 63 rfl (sc 64 rfl sn))))))))))) (by kernel_rfl) (by kernel_rfl) (cc rfl (p_fieldAddr pt145_4 fa_145_4 g0 (od rfl id))
              (cc rfl (p_loadB ld_4 g0 (od rfl id)) cn)) fun a21 w21 b21 s21 => ?_
          have z21 := z20.trans (b21.mono z20.size)
          refine s21.cond 66 rfl (fun h66 => ?_) (fun h66 => ?_)
          · -- true
            have hw : m.wr = true := h66
            refine flowT (s21.keep (sc 0 rfl (sc 4 rfl (sc 6 rfl (sc 7 rfl (sc 59 rfl (sc 60 rfl (sc 61 rfl (sc 62 rfl (sc 63 rfl (sc 64 rfl (sc 65 rfl (sc 66 rfl sn))))))))))))) (by kernel_rfl) (cc rfl (p_assign g0 (oc _)) cn) fun a22 w22 b22 s22 => ?_
            have z22 := z21.trans (b22.mono z21.size)
            have s22 := s22.more 7 (y := .int .u64 (if m.wr then 1 else 0)) (by rw [hw]; exact s22.get 7 rfl)
            refine wp_seq ?_
            refine flowC mixed (s22.keep (sc 0 rfl (sc 4 rfl (sc 6 rfl (sc 7 rfl (sc 59 rfl (sc 60 rfl (sc 61 rfl (sc 62 rfl (sc 63 rfl (sc 64 rfl (sc 65 rfl (sc 66 rfl sn))))))))))))) (by kernel_rfl) (by kernel_rfl) (cc rfl (p_fieldAddr pt145_0 fa_145_0 g0 (od rfl id))
                (cc rfl (p_loadI ld_3 g0 (od rfl id))
                (cc rfl (p_conv g0 (od rfl id) (cv_id e1))
                (cc rfl (p_fieldAddr pt145_1 fa_145_1 g0 (od rfl id))
                (cc rfl (p_loadI ld_23 g0 (od rfl id))
                (cc rfl (p_fieldAddr pt145_2 fa_145_2 g0 (od rfl id))
                (cc rfl (p_loadI ld_3 g0 (od rfl id))
                (cc rfl (p_conv g0 (od rfl id) (cv_id e2))
                (cc rfl (p_fieldAddr pt145_3 fa_145_3 g0 (od rfl id))
                (cc rfl (p_loadI ld_3 g0 (od rfl id))
                (cc rfl (p_conv g0 (od rfl id) (cv_id e3))
                (cc rfl (p_move g0 (od rfl id))
                (cc rfl (p_bd153 g0 (od rfl id) (od rfl id) (od rfl id) (od rfl id) (od rfl id))
                (cc rfl (p_move g0 (oc _)) cn)))))))))))))) fun a23 w23 b23 s23 => ?_
            have z23 := z22.trans (b23.mono z22.size)
            refine wp_block ?_
            have s23 := s23.more 0 (y := .by (obH bs o ++ Pk.putL 1 (o.mps.length : Int) ++ (o.mps.take i).flatMap mapB ++ ((fiveL m).take 0).flatMap (Pk.putL 2))) (by simpa using s23.get 0 rfl)
            refine wp_range 5 80 (fun j => [(0, true, .by (obH bs o ++ Pk.putL 1 (o.mps.length : Int) ++ (o.mps.take i).flatMap mapB ++ ((fiveL m).take j).flatMap (Pk.putL 2)))]) (fun _ _ => True) (s23.keep (sc 80 rfl (sc 0 rfl (sc 4 rfl (sc 6 rfl (sc 7 rfl (sc 59 rfl (sc 60 rfl (sc 61 rfl (sc 62 rfl (sc 63 rfl (sc 64 rfl (sc 65 rfl (sc 66 rfl (sc 67 rfl (sc 68 rfl (sc 69 rfl (sc 70 rfl (sc 71 rfl (sc 72 rfl (sc 73 rfl (sc 74 rfl (sc 75 rfl (sc 76 rfl (sc 77 rfl (sc 78 rfl (sc 79 rfl sn))))))))))))))))))))))))))) z23 True.intro fun j a24 w24 hj24 s24 z24 x24 => ?_
            refine wp_seq ?_
            refine flowC mixed (s24.keep (sc 0 rfl (sc 4 rfl (sc 6 rfl (sc 7 rfl (sc 59 rfl (sc 60 rfl (sc 61 rfl (sc 62 rfl (sc 63 rfl (sc 64 rfl (sc 65 rfl (sc 66 rfl (sc 67 rfl (sc 68 rfl (sc 69 rfl (sc 70 rfl (sc 71 rfl (sc 72 rfl (sc 73 rfl (sc 74 rfl (sc 75 rfl (sc 76 rfl (sc 77 rfl (sc 78 rfl (sc 79 rfl (sc 80 rfl sn))))))))))))))))))))))))))) (by kernel_rfl) (by kernel_rfl) (cc rfl (p_bin g0 (od rfl id) (oc _) b_lss_3) cn) fun a25 w25 b25 s25 => ?_
            have z25 := z24.trans (b25.mono z24.size)
            refine wp_seq ?_
            refine s25.cond 81 rfl (fun h81 => ?_) (fun h81 => ?_)
            · -- true
              have hj5 : j < 5 := by have := of_decide_eq_true h81; (try dsimp only at this); omega
              obtain ⟨xv, ex⟩ : ∃ x, (fiveL m)[j]? = some x := ⟨_, List.getElem?_eq_getElem hj5⟩
              have hlB : (obH bs o ++ Pk.putL 1 (o.mps.length : Int) ++ (o.mps.take i).flatMap mapB ++ ((fiveL m).take j).flatMap (Pk.putL 2)).length ≤ 1000000 := by simp only [List.length_append, Pk.putL_length, mapsB_length, puts2_length, List.length_take]; omega
              refine wp_skip ?_
              refine wp_seq ?_
              refine wp_block ?_
              refine wp_seq ?_
              refine flowC mixed (s25.keep (sc 0 rfl (sc 4 rfl (sc 6 rfl (sc 7 rfl (sc 59 rfl (sc 60 rfl (sc 61 rfl (sc 62 rfl (sc 63 rfl (sc 64 rfl (sc 65 rfl (sc 66 rfl (sc 67 rfl (sc 68 rfl (sc 69 rfl (sc 70 rfl (sc 71 rfl (sc 72 rfl (sc 73 rfl (sc 74 rfl (sc 75 rfl (sc 76 rfl (sc 77 rfl (sc 78 rfl (sc 79 rfl (sc 80 rfl (sc 81 rfl sn)))))))))))))))))))))))))))) (by kernel_rfl) (by kernel_rfl) (cc rfl (p_ix153 ex g0 (od rfl id) (od rfl id))
                  (cc rfl (p_assign g0 (od rfl id)) cn)) fun a26 w26 b26 s26 => ?_
              have z26 := z25.trans (b26.mono z25.size)
              refine flowT (s26.keep (sc 0 rfl (sc 4 rfl (sc 6 rfl (sc 7 rfl (sc 9 rfl (sc 59 rfl (sc 60 rfl (sc 61 rfl (sc 62 rfl (sc 63 rfl (sc 64 rfl (sc 65 rfl (sc 66 rfl (sc 67 rfl (sc 68 rfl (sc 69 rfl (sc 70 rfl (sc 71 rfl (sc 72 rfl (sc 73 rfl (sc 74 rfl (sc 75 rfl (sc 76 rfl (sc 77 rfl (sc 78 rfl (sc 79 rfl (sc 80 rfl (sc 81 rfl (sc 82 rfl sn)))))))))))))))))))))))))))))) (by kernel_rfl) (cc rfl (p_move g0 (od rfl id))
                  (cc rfl (p_move g0 (od rfl id))
                  (cc rfl (p_call 29 g0 (ox (od rfl id) (ox (oc _) (ox (od rfl id) ox0))) (fun _ _ => by kernel_rfl) (f29 (n := 2) hlB (by decide)))
                  (cc rfl (p_assign g0 (od rfl id)) cn)))) fun a27 w27 b27 s27 => ?_
              have z27 := z26.trans (b27.mono z26.size)
              have s27 := s27.more 0 (y := .by (obH bs o ++ Pk.putL 1 (o.mps.length : Int) ++ (o.mps.take i).flatMap mapB ++ ((fiveL m).take (j + 1)).flatMap (Pk.putL 2))) (by rw [flat_succ ex, ← List.append_assoc]; exact s27.get 0 rfl)
              refine flowT (s27.keep (sc 0 rfl (sc 4 rfl (sc 6 rfl (sc 7 rfl (sc 9 rfl (sc 59 rfl (sc 60 rfl (sc 61 rfl (sc 62 rfl (sc 63 rfl (sc 64 rfl (sc 65 rfl (sc 66 rfl (sc 67 rfl (sc 68 rfl (sc 69 rfl (sc 70 rfl (sc 71 rfl (sc 72 rfl (sc 73 rfl (sc 74 rfl (sc 75 rfl (sc 76 rfl (sc 77 rfl (sc 78 rfl (sc 79 rfl (sc 80 rfl (sc 81 rfl (sc 82 rfl (sc 83 rfl (sc 84 rfl (sc 85 rfl sn))))))))))))))))))))))))))))))))) (by kernel_rfl) (cc rfl (p_bin g0 (od rfl id) (oc _) (inc_3 (by omega)))
                  (cc rfl (p_move g0 (od rfl id)) cn)) fun a28 w28 b28 s28 => ?_
              have z28 := z27.trans (b28.mono z27.size)
              exact ⟨hj5, s28.to _ ⟨rfl, rfl, rfl, rfl, rfl, rfl, rfl, rfl, rfl, rfl, rfl, rfl, rfl, rfl, rfl, rfl, rfl, rfl, rfl, rfl, rfl, rfl, rfl, rfl, rfl, rfl, True.intro⟩, z28, True.intro⟩
            · -- false
              obtain rfl : j = 5 := by have := of_decide_eq_false h81; (try dsimp only at this); omega
              have s25 := s25.more 0 (y := .by (obH bs o ++ Pk.putL 1 (o.mps.length : Int) ++ (o.mps.take (i + 1)).flatMap mapB)) (by have h := s25.get 0 rfl; rw [flat_succ em1, mapB_five, ← List.append_assoc]; exact h)
              refine wp_exit ?_
              refine flowT (s25.keep (sc 0 rfl (sc 4 rfl (sc 6 rfl (sc 7 rfl (sc 59 rfl (sc 60 rfl (sc 61 rfl (sc 62 rfl (sc 63 rfl (sc 64 rfl (sc 65 rfl (sc 66 rfl (sc 67 rfl (sc 68 rfl (sc 69 rfl (sc 70 rfl (sc 71 rfl (sc 72 rfl (sc 73 rfl (sc 74 rfl (sc 75 rfl (sc 76 rfl (sc 77 rfl (sc 78 rfl (sc 79 rfl (sc 80 rfl (sc 81 rfl sn)))))))))))))))))))))))))))) (by kernel_rfl) (cc rfl (p_bin g0 (od rfl id) (oc _) (inc_3 (by omega)))
                  (cc rfl (p_move g0 (od rfl id)) cn)) fun a29 w29 b29 s29 => ?_
              have z29 := z25.trans (b29.mono z25.size)
              exact ⟨hlt1, s29.to _ ⟨rfl, rfl, rfl, rfl, rfl, True.intro⟩, z29, True.intro⟩
          · -- false
            have hw : m.wr = false := h66
            have s21 := s21.more 7 (y := .int .u64 (if m.wr then 1 else 0)) (by rw [hw]; exact s21.get 7 rfl)
            refine wp_skip ?_
            refine wp_seq ?_
            refine flowC mixed (s21.keep (sc 0 rfl (sc 4 rfl (sc 6 rfl (sc 7 rfl (sc 59 rfl (sc 60 rfl (sc 61 rfl (sc 62 rfl (sc 63 rfl (sc 64 rfl (sc 65 rfl (sc 66 rfl sn))))))))))))) (by kernel_rfl) (by kernel_rfl) (cc rfl (p_fieldAddr pt145_0 fa_145_0 g0 (od rfl id))
                (cc rfl (p_loadI ld_3 g0 (od rfl id))
                (cc rfl (p_conv g0 (od rfl id) (cv_id e1))
                (cc rfl (p_fieldAddr pt145_1 fa_145_1 g0 (od rfl id))
                (cc rfl (p_loadI ld_23 g0 (od rfl id))
                (cc rfl (p_fieldAddr pt145_2 fa_145_2 g0 (od rfl id))
                (cc rfl (p_loadI ld_3 g0 (od rfl id))
                (cc rfl (p_conv g0 (od rfl id) (cv_id e2))
                (cc rfl (p_fieldAddr pt145_3 fa_145_3 g0 (od rfl id))
                (cc rfl (p_loadI ld_3 g0 (od rfl id))
                (cc rfl (p_conv g0 (od rfl id) (cv_id e3))
                (cc rfl (p_move g0 (od rfl id))
                (cc rfl (p_bd153 g0 (od rfl id) (od rfl id) (od rfl id) (od rfl id) (od rfl id))
                (cc rfl (p_move g0 (oc _)) cn)))))))))))))) fun a30 w30 b30 s30 => ?_
            have z30 := z21.trans (b30.mono z21.size)
            refine wp_block ?_
            have s30 := s30.more 0 (y := .by (obH bs o ++ Pk.putL 1 (o.mps.length : Int) ++ (o.mps.take i).flatMap mapB ++ ((fiveL m).take 0).flatMap (Pk.putL 2))) (by simpa using s30.get 0 rfl)
            refine wp_range 5 80 (fun j => [(0, true, .by (obH bs o ++ Pk.putL 1 (o.mps.length : Int) ++ (o.mps.take i).flatMap mapB ++ ((fiveL m).take j).flatMap (Pk.putL 2)))]) (fun _ _ => True) (s30.keep (sc 80 rfl (sc 0 rfl (sc 4 rfl (sc 6 rfl (sc 7 rfl (sc 59 rfl (sc 60 rfl (sc 61 rfl (sc 62 rfl (sc 63 rfl (sc 64 rfl (sc 65 rfl (sc 66 rfl (sc 67 rfl (sc 68 rfl (sc 69 rfl (sc 70 rfl (sc 71 rfl (sc 72 rfl (sc 73 rfl (sc 74 rfl (sc 75 rfl (sc 76 rfl (sc 77 rfl (sc 78 rfl (sc 79 rfl sn))))))))))))))))))))))))))) z30 True.intro fun j a31 w31 hj31 s31 z31 x31 => ?_
            refine wp_seq ?_
            refine flowC mixed (s31.keep (sc 0 rfl (sc 4 rfl (sc 6 rfl (sc 7 rfl (sc 59 rfl (sc 60 rfl (sc 61 rfl (sc 62 rfl (sc 63 rfl (sc 64 rfl (sc 65 rfl (sc 66 rfl (sc 67 rfl (sc 68 rfl (sc 69 rfl (sc 70 rfl (sc 71 rfl (sc 72 rfl (sc 73 rfl (sc 74 rfl (sc 75 rfl (sc 76 rfl (sc 77 rfl (sc 78 rfl (sc 79 rfl (sc 80 rfl sn))))))))))))))))))))))))))) (by kernel_rfl) (by kernel_rfl) (cc rfl (p_bin g0 (od rfl id) (oc _) b_lss_3) cn) fun a32 w32 b32 s32 => ?_
            have z32 := z31.trans (b32.mono z31.size)
            refine wp_seq ?_
            refine s32.cond 81 rfl (fun h81 => ?_) (fun h81 => ?_)
            · -- true
              have hj5 : j < 5 := by have := of_decide_eq_true h81; (try dsimp only at this); omega
              obtain ⟨xv, ex⟩ : ∃ x, (fiveL m)[j]? = some x := ⟨_, List.getElem?_eq_getElem hj5⟩
              have hlB : (obH bs o ++ Pk.putL 1 (o.mps.length : Int) ++ (o.mps.take i).flatMap mapB ++ ((fiveL m).take j).flatMap (Pk.putL 2)).length ≤ 1000000 := by simp only [List.length_append, Pk.putL_length, mapsB_length, puts2_length, List.length_take]; omega
              refine wp_skip ?_
              refine wp_seq ?_
              refine wp_block ?_
              refine wp_seq ?_
              refine flowC mixed (s32.keep (sc 0 rfl (sc 4 rfl (sc 6 rfl (sc 7 rfl (sc 59 rfl (sc 60 rfl (sc 61 rfl (sc 62 rfl (sc 63 rfl (sc 64 rfl (sc 65 rfl (sc 66 rfl (sc 67 rfl (sc 68 rfl (sc 69 rfl (sc 70 rfl (sc 71 rfl (sc 72 rfl (sc 73 rfl (sc 74 rfl (sc 75 rfl (sc 76 rfl (sc 77 rfl (sc 78 rfl (sc 79 rfl (sc 80 rfl (sc 81 rfl sn)))))))))))))))))))))))))))) (by kernel_rfl) (by kernel_rfl) (cc rfl (p_ix153 ex g0 (od rfl id) (od rfl id))
                  (cc rfl (p_assign g0 (od rfl id)) cn)) fun a33 w33 b33 s33 => ?_
              have z33 := z32.trans (b33.mono z32.size)
              refine flowT (s33.keep (sc 0 rfl (sc 4 rfl (sc 6 rfl (sc 7 rfl (sc 9 rfl (sc 59 rfl (sc 60 rfl (sc 61 rfl (sc 62 rfl (sc 63 rfl (sc 64 rfl (sc 65 rfl (sc 66 rfl (sc 67 rfl (sc 68 rfl (sc 69 rfl (sc 70 rfl (sc 71 rfl (sc 72 rfl (sc 73 rfl (sc 74 rfl (sc 75 rfl (sc 76 rfl (sc 77 rfl (sc 78 rfl (sc 79 rfl (sc 80 rfl (sc 81 rfl (sc 82 rfl sn)))))))))))))))))))))))))))))) (by kernel_rfl) (cc rfl (p_move g0 (od rfl id))
                  (cc rfl (p_move g0 (od rfl id))
                  (cc rfl (p_call 29 g0 (ox (od rfl id) (ox (oc _) (ox (od rfl id) ox0))) (fun _ _ => by kernel_rfl) (f29 (n := 2) hlB (by decide)))
                  (cc rfl (p_assign g0 (od rfl id)) cn)))) fun a34 w34 b34 s34 => ?_
              have z34 := z33.trans (b34.mono z33.size)
              have s34 := s34.more 0 (y := .by (obH bs o ++ Pk.putL 1 (o.mps.length : Int) ++ (o.mps.take i).flatMap mapB ++ ((fiveL m).take (j + 1)).flatMap (Pk.putL 2))) (by rw [flat_succ ex, ← List.append_assoc]; exact s34.get 0 rfl)
              refine flowT (s34.keep (sc 0 rfl (sc 4 rfl (sc 6 rfl (sc 7 rfl (sc 9 rfl (sc 59 rfl (sc 60 rfl (sc 61 rfl (sc 62 rfl (sc 63 rfl (sc 64 rfl (sc 65 rfl (sc 66 rfl (sc 67 rfl (sc 68 rfl (sc 69 rfl (sc 70 rfl (sc 71 rfl (sc 72 rfl (sc 73 rfl (sc 74 rfl (sc 75 rfl (sc 76 rfl (sc 77 rfl (sc 78 rfl (sc 79 rfl (sc 80 rfl (sc 81 rfl (sc 82 rfl (sc 83 rfl (sc 84 rfl (sc 85 rfl sn))))))))))))))))))))))))))))))))) (by kernel_rfl) (cc rfl (p_bin g0 (od rfl id) (oc _) (inc_3 (by omega)))
                  (cc rfl (p_move g0 (od rfl id)) cn)) fun a35 w35 b35 s35 => ?_
              have z35 := z34.trans (b35.mono z34.size)
              exact ⟨hj5, s35.to _ ⟨rfl, rfl, rfl, rfl, rfl, rfl, rfl, rfl, rfl, rfl, rfl, rfl, rfl, rfl, rfl, rfl, rfl, rfl, rfl, rfl, rfl, rfl, rfl, rfl, rfl, rfl, True.intro⟩, z35, True.intro⟩
            · -- false
              obtain rfl : j = 5 := by have := of_decide_eq_false h81; (try dsimp only at this); omega
              have s32 := s32.more 0 (y := .by (obH bs o ++ Pk.putL 1 (o.mps.length : Int) ++ (o.mps.take (i + 1)).flatMap mapB)) (by have h := s32.get 0 rfl; rw [flat_succ em1, mapB_five, ← List.append_assoc]; exact h)
              refine wp_exit ?_
              refine flowT (s32.keep (sc 0 rfl (sc 4 rfl (sc 6 rfl (sc 7 rfl (sc 59 rfl (sc 60 rfl (sc 61 rfl (sc 62 rfl (sc 63 rfl (sc 64 rfl (sc 65 rfl (sc 66 rfl (sc 67 rfl (sc 68 rfl (sc 69 rfl (sc 70 rfl (sc 71 rfl (sc 72 rfl (sc 73 rfl (sc 74 rfl (sc 75 rfl (sc 76 rfl (sc 77 rfl (sc 78 rfl (sc 79 rfl (sc 80 rfl (sc 81 rfl sn)))))))))))))))))))))))))))) (by kernel_rfl) (cc rfl (p_bin g0 (od rfl id) (oc _) (inc_3 (by omega)))
                  (cc rfl (p_move g0 (od rfl id)) cn)) fun a36 w36 b36 s36 => ?_
              have z36 := z32.trans (b36.mono z32.size)
              exact ⟨hlt1, s36.to _ ⟨rfl, rfl, rfl, rfl, rfl, True.intro⟩, z36, True.intro⟩
        · -- false
          obtain rfl : i = o.mps.length := by have := of_decide_eq_false h62; (try dsimp only at this); omega
          have s18 := s18.more 0 (y := .by (obH bs o ++ Pk.putL 1 (o.mps.length : Int) ++ o.mps.flatMap mapB)) (by have h := s18.get 0 rfl; rw [List.take_length] at h; exact h)
          refine wp_exit ?_
          refine wp_seq ?_
          refine flowT (s18.keep (sc 0 rfl (sc 4 rfl (sc 59 rfl (sc 60 rfl (sc 61 rfl sn)))))) (by kernel_rfl) (cc rfl (p_move g0 (od rfl id))
              (cc rfl (p_assign g0 (od rfl id)) cn)) fun a37 w37 b37 s37 => ?_
          have z37 := z18.trans (b37.mono z18.size)
          have s37 := s37.more 4 (y := .by (bs ++ obB o)) (by rw [← enc4 p4]; exact s37.get 4 rfl)
          exact wp_ret (ret_tmp (fn := Try.f116) s37 4 rfl rfl (fun _ h => h) z37)
      · -- false
        have p4 : ¬ o.k = 4 := by simpa using h50
        refine wp_seq ?_
        refine wp_seq ?_
        refine flowC mixed (s14.keep (sc 0 rfl (sc 3 rfl (sc 4 rfl (sc 23 rfl sn))))) (by kernel_rfl) (by kernel_rfl) (cc rfl (p_bin g0 (od rfl id) (oc _) b_eql_3)
            (cc rfl (p_assign g0 (od rfl id)) cn)) fun a38 w38 b38 s38 => ?_
        have z38 := z14.trans (b38.mono z14.size)
        refine s38.cond 88 rfl (fun h88 => ?_) (fun h88 => ?_)
        · -- true
          have p3 : o.k = 3 := by simpa using h88
          obtain ⟨q1, q2, q3⟩ := hO.b3 (.inl p3)
          have hcl := q1.len
          have es := u64_id q2
          have ec := u64_id q3
          refine wp_skip ?_
          refine s38.cond 88 rfl (fun _ => ?_) (fun h => absurd h (by rw [h88]; simp))
          refine flowR 12 mixed (s38.keep (sc 0 rfl (sc 3 rfl (sc 4 rfl sn)))) (by kernel_rfl) (by kernel_rfl) (cc rfl (p_move g0 (od rfl id))
              (cc rfl (p_fieldAddr pt67_3 fa_67_3 g0 (od rfl id))
              (cc rfl (p_load Try.underlying39 rfl sz_39 g0 (od rfl id))
              (cc rfl (p_call 37 g0 (ox (od rfl id) (ox (od rfl id) ox0)) (fun _ _ => by kernel_rfl) (f37b (by first | omega | (simp; omega) | simp) (by decide)))
              (cc rfl (p_fieldAddr pt67_8 fa_67_8 g0 (od rfl id))
              (cc rfl (p_loadI ld_3 g0 (od rfl id))
              (cc rfl (p_conv g0 (od rfl id) (cv_id es))
              (cc rfl (p_call 29 g0 (ox (od rfl id) (ox (oc _) (ox (od rfl id) ox0))) (fun _ _ => by kernel_rfl) (f29 (n := 1) (by first | omega | (simp; omega) | simp) (by decide)))
              (cc rfl (p_fieldAddr pt67_9 fa_67_9 g0 (od rfl id))
              (cc rfl (p_loadI ld_3 g0 (od rfl id))
              (cc rfl (p_conv g0 (od rfl id) (cv_id ec))
              (cc rfl (p_call 29 g0 (ox (od rfl id) (ox (oc _) (ox (od rfl id) ox0))) (fun _ _ => by kernel_rfl) (f29 (n := 4) (by first | omega | (simp; omega) | simp) (by decide))) cn)))))))))))) fun a39 w39 b39 s39 => ?_
          have z39 := z38.trans (b39.mono z38.size)
          refine chainT (t := []) (cc rfl (p_assign g0 (od rfl id)) cn) (by kernel_rfl) s39 fun a40 w40 b40 s40 => wpList_done ?_
          have z40 := z39.trans (b40.mono z39.size)
          refine wp_seq ?_
          refine flowT (s40.keep (sc 0 rfl (sc 4 rfl sn))) (by kernel_rfl) (cc rfl (p_move g0 (od rfl id))
              (cc rfl (p_assign g0 (od rfl id)) cn)) fun a41 w41 b41 s41 => ?_
          have z41 := z40.trans (b41.mono z40.size)
          have s41 := s41.more 4 (y := .by (bs ++ obB o)) (by rw [← enc3 (.inl p3)]; exact s41.get 4 rfl)
          exact wp_ret (ret_tmp (fn := Try.f116) s41 4 rfl rfl (fun _ h => h) z41)
        · -- false
          have p3 : ¬ o.k = 3 := by simpa using h88
          refine flowT (s38.keep (sc 0 rfl (sc 3 rfl (sc 4 rfl (sc 23 rfl (sc 88 rfl sn)))))) (by kernel_rfl) (cc rfl (p_bin g0 (od rfl id) (oc _) b_eql_3)
              (cc rfl (p_assign g0 (od rfl id)) cn)) fun a42 w42 b42 s42 => ?_
          have z42 := z38.trans (b42.mono z38.size)
          refine s42.cond 88 rfl (fun h90 => ?_) (fun h90 => ?_)
          · -- true
            have p5 : o.k = 5 := by simpa using h90
            obtain ⟨q1, q2, q3⟩ := hO.b3 (.inr p5)
            have hcl := q1.len
            have es := u64_id q2
            have ec := u64_id q3
            refine flowR 12 mixed (s42.keep (sc 0 rfl (sc 3 rfl (sc 4 rfl sn)))) (by kernel_rfl) (by kernel_rfl) (cc rfl (p_move g0 (od rfl id))
                (cc rfl (p_fieldAddr pt67_3 fa_67_3 g0 (od rfl id))
                (cc rfl (p_load Try.underlying39 rfl sz_39 g0 (od rfl id))
                (cc rfl (p_call 37 g0 (ox (od rfl id) (ox (od rfl id) ox0)) (fun _ _ => by kernel_rfl) (f37b (by first | omega | (simp; omega) | simp) (by decide)))
                (cc rfl (p_fieldAddr pt67_8 fa_67_8 g0 (od rfl id))
                (cc rfl (p_loadI ld_3 g0 (od rfl id))
                (cc rfl (p_conv g0 (od rfl id) (cv_id es))
                (cc rfl (p_call 29 g0 (ox (od rfl id) (ox (oc _) (ox (od rfl id) ox0))) (fun _ _ => by kernel_rfl) (f29 (n := 1) (by first | omega | (simp; omega) | simp) (by decide)))
                (cc rfl (p_fieldAddr pt67_9 fa_67_9 g0 (od rfl id))
                (cc rfl (p_loadI ld_3 g0 (od rfl id))
                (cc rfl (p_conv g0 (od rfl id) (cv_id ec))
                (cc rfl (p_call 29 g0 (ox (od rfl id) (ox (oc _) (ox (od rfl id) ox0))) (fun _ _ => by kernel_rfl) (f29 (n := 4) (by first | omega | (simp; omega) | simp) (by decide))) cn)))))))))))) fun a43 w43 b43 s43 => ?_
            have z43 := z42.trans (b43.mono z42.size)
            refine chainT (t := []) (cc rfl (p_assign g0 (od rfl id)) cn) (by kernel_rfl) s43 fun a44 w44 b44 s44 => wpList_done ?_
            have z44 := z43.trans (b44.mono z43.size)
            refine wp_seq ?_
            refine flowT (s44.keep (sc 0 rfl (sc 4 rfl sn))) (by kernel_rfl) (cc rfl (p_move g0 (od rfl id))
                (cc rfl (p_assign g0 (od rfl id)) cn)) fun a45 w45 b45 s45 => ?_
            have z45 := z44.trans (b45.mono z44.size)
            have s45 := s45.more 4 (y := .by (bs ++ obB o)) (by rw [← enc3 (.inr p5)]; exact s45.get 4 rfl)
            exact wp_ret (ret_tmp (fn := Try.f116) s45 4 rfl rfl (fun _ h => h) z45)
          · -- false
            have p5 : ¬ o.k = 5 := by simpa using h90
            refine wp_skip ?_
            refine wp_seq ?_
            refine flowT (s42.keep (sc 0 rfl (sc 4 rfl sn))) (by kernel_rfl) (cc rfl (p_move g0 (od rfl id))
                (cc rfl (p_assign g0 (od rfl id)) cn)) fun a46 w46 b46 s46 => ?_
            have z46 := z42.trans (b46.mono z42.size)
            have s46 := s46.more 4 (y := .by (bs ++ obB o)) (by rw [← enc6 p1 p2 p4 (fun h => h.elim p3 p5)]; exact s46.get 4 rfl)
            exact wp_ret (ret_tmp (fn := Try.f116) s46 4 rfl rfl (fun _ h => h) z46)
end Go.Proofs.Ytihddficgpjgpaa.Y
