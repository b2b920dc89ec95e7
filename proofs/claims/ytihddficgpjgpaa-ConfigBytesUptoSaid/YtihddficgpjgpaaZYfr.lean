/- Yfr: bytes in a row of their own -/
import Derived.Test.YtihddficgpjgpaaZYdec
import Derived.Test.YtihddficgpjgpaaZYctl
namespace Go.Proofs.Ytihddficgpjgpaa.Y
open Go.RowKit Go.ChangeShapes Go.WideShapes Go.ChangeAt
/-- Bytes in a row that lies in blocks from B on. -/
abbrev Sym.fr (B : Nat) (l : List Int) : Sym := .both (.both (.past B) (.own B 5 byL.n l.length (l.flatMap byE))) (.by l)
theorem fn_fr {U : Prop} {P : Program} {f : FuncId} {B : Nat} {l l2 : List Int} {ys : List Sym} (h : Fn U P f (.both (.past B) (.by l) :: ys) (.both (.own B 5 byL.n l2.length (l2.flatMap byE)) (.by l2))) : Fn U P f (.fr B l :: ys) (.fr B l2) := fun w F vs hl ho hF => by
  match vs, hl, ho with
  | v0 :: vs, hl, ho =>
    have h0 := ho 0 v0 _ rfl rfl
    refine (h w F (v0 :: vs) hl (fun i v y' hv hy => ?_) hF).mono ?_
    · cases i with
      | zero => simp at hv hy; subst hv hy; exact ⟨h0.1.1, h0.2⟩
      | succ i => exact ho (i + 1) v y' hv hy
    · rintro e w' ⟨v, h1, h2, h3⟩
      exact ⟨v, h1, ⟨⟨Nat.le_trans h0.1.1 h3.size, h2.1⟩, h2.2⟩, h3⟩
theorem f29f {U : Prop} {B : Nat} {l : List Int} {n : Nat} {x : Int} (hl : l.length ≤ 1000000) (hn : n ≤ 8) : Fn U Try.prog 29 [.fr B l, .int .i64 n, .int .u64 x] (.fr B (l ++ Pk.putL n x)) := fn_fr (f29own hl hn)
theorem by_nil {w : World} {F : Cell → Prop} : (Sym.by []).on w F (.slice none 0 0) := ⟨none, 0, rfl, fun h => absurd h (by simp), Nat.le_refl _⟩
theorem put_nil {U : Prop} {w : World} {F : Cell → Prop} {B n : Nat} {x : Int} {v : Value} (hB : B ≤ w.heap.size) (hv : v = .int .u64 x) (hn : n ≤ 8) (hF : FOK U F w) : Calls Try.prog 29 #[.slice none 0 0, .int .i64 n, v] w fun e w' => ∃ r, e = .returned r ∧ (Sym.fr B (Pk.putL n x)).on w' F r ∧ Below w.heap.size w w' :=
  f29f (U := U) (B := B) (l := []) (n := n) (x := x) (by simp) hn w F [.slice none 0 0, .int .i64 n, v] rfl (fun i v' y h1 h2 => by
    match i, h1, h2 with
    | 0, h1, h2 => simp at h1 h2; subst h1 h2; exact ⟨⟨hB, World.ownsRow_nil _ _ _ _, fun g o h => by cases h⟩, by_nil⟩
    | 1, h1, h2 => simp at h1 h2; subst h1 h2; rfl
    | 2, h1, h2 => simp at h1 h2; subst h1 h2; exact hv) hF
section
variable {U : Prop} {P : Program} {Q : Exit → Act → World → Prop} {N : Nat} {e : Env} {F : Cell → Prop} {a : Act} {w : World} {ops : Array Oper} {rest : List Oper} {o : Oper}
/-- A call whose result is told as something known of it. -/
theorem call_y {f : FuncId} {d : Nat} {y : Sym} (A : List Operand) (h : StE U N e F a w) (hw : Region.wanted o (yielded ops a.tmps) = true) (hr : CallRun P o A f) (hd : o.dst = some d) (hdN : decide (d < N) = true)
    (HC : Calls P f (A.map a.eval).toArray w fun e w' => ∃ r, e = .returned r ∧ y.on w' F r ∧ Below w.heap.size w w')
    (hQ : ∀ a' w', Below w.heap.size w w' → StE U N ((d, true, y) :: e) F a' w' → wpList P ops Q rest a' w') : wpList P ops Q (o :: rest) a w := by
  refine call_on f A hw hr (HC.mono ?_)
  rintro _ w' ⟨r, rfl, h1, h2⟩
  refine ⟨r, rfl, ?_⟩
  rw [hd]
  exact hQ _ w' h2 (h.put h2 (by simpa using hdN) ⟨fun _ => h1, fun e => by cases e⟩)
end
set_option maxRecDepth 100000 in
theorem f37o {B : Nat} {bs : List Int} {a : Lab} (hb : bs.length ≤ 100000) (hp : a.ps.length ≤ 100000) : Fn False Try.prog 37 [.both (.past B) (.by bs), .st rawL a] (.both (.own B 5 byL.n (bs ++ labB a).length ((bs ++ labB a).flatMap byE)) (.by (bs ++ labB a))) := fn2 fun w F v0 v1 h0 h1 hF => by
  obtain ⟨i0, hi0, hz0, hz1, hz2⟩ := info_parts Try.info5
  go_enter Try.func37, Try.ntmps37
  refine wp_seq ?_
  refine flowC mixed (st0 (U := False) (N := 38) (e := [(0, true, .both (.past B) (.by bs)), (1, true, .st rawL a)]) (F := F) rfl rfl hF ⟨⟨rfl, h0⟩, ⟨⟨rfl, h1⟩, True.intro⟩⟩) (by kernel_rfl) (by kernel_rfl) (cc rfl (p_box bx_39 g0 (od rfl id))
      (cc rfl (p_assign g0 (oc _)) cn)) fun a1 w1 b1 s1 => ?_
  have z1 := b1
  refine wp_seq ?_
  obtain ⟨v3, ev3⟩ : ∃ x, a1.tmps.getD 3 undef = x := ⟨_, rfl⟩
  have s1 := s1.more 3 (y := .both (.val v3) (.at rawL a)) ⟨ev3, s1.get 3 rfl⟩
  have s1 := s1.more 0 (y := .both (.past w1.heap.size) (.by bs)) ⟨Nat.le_refl _, (s1.get 0 rfl).2⟩
  refine flowR 10 mixed (s1.keep (sc 0 rfl (sc 3 rfl (sc 4 rfl sn)))) (by kernel_rfl) (by kernel_rfl) (cc rfl (p_move g0 (od rfl id))
      (cc rfl (p_copyOwn (B := w1.heap.size) byF Try.underlying22 hi0 hz0 hz1 hz2 rfl (by decide) (by decide) (by omega) g0 (od rfl id))
      (cc rfl (p_fieldAddr ptr0 fa_39_0 g0 (od2 rfl id))
      (cc rfl (p_loadI ld_3 g0 (od rfl id))
      (cc rfl (p_conv g0 (od rfl id) cv_3_5)
      (cc rfl (p_fieldAddr ptr1 fa_39_1 g0 (od2 rfl id))
      (cc rfl (p_load1 rfl ld_37 g0 (od rfl id))
      (cc rfl (p_len ln_37 g0 (od rfl id))
      (cc rfl (p_conv g0 (od rfl id) cv_3_5)
      (cc rfl (p_lits2 bs_22_2 g0 (od rfl id) (od rfl id)) cn)))))))))) fun a2 w2 b2 s2 => ?_
  have z2 := z1.trans (b2.mono z1.size)
  show wpList _ _ _ (_ :: _) _ _
  refine own_grow (F0 := F) (B := w.heap.size) (l2 := [IntKind.u8.wrap a.d, IntKind.u8.wrap (a.ps.length : Int)]) byF 9 17 id s1 s2 b2 (fun _ h => h) rfl rfl (by decide) rfl Try.underlying22 hi0 hz0 hz1 hz2 rfl (by decide) rfl rfl (ag 3 rfl rfl an) z1.size (by unfold maxLen; simp; omega) (by simp; omega) fun v w3 gr b3 s3 => ?_
  have z3 := z1.trans (b3.mono z1.size)
  refine chainT (t := []) (cc rfl (p_assign g0 (od rfl id)) cn) (by kernel_rfl) s3 fun a4 w4 b4 s4 => wpList_done ?_
  have z4 := z3.trans (b4.mono z3.size)
  have gr := gr.below b4
  refine wp_seq ?_
  refine wp_seq ?_
  refine flowC mixed (s4.keep (sc 3 rfl (sc 5 rfl sn))) (by kernel_rfl) (by kernel_rfl) (cc rfl (p_fieldAddr ptr1 fa_39_1 g0 (od2 rfl id))
      (cc rfl (p_load1 rfl ld_37 g0 (od rfl id))
      (cc rfl (p_len ln_37 g0 (od rfl id))
      (cc rfl (p_move g0 (oc _)) cn)))) fun a5 w5 b5 s5 => ?_
  have z5 := z4.trans (b5.mono z4.size)
  have gr := gr.below b5
  refine wp_block ?_
  rw [← labTo_0] at gr s5
  obtain ⟨vp, evp⟩ : ∃ x, a5.tmps.getD 20 undef = x := ⟨_, rfl⟩
  have s5 := s5.more 20 (y := .both (.val vp) (.one (Lay.sl pairL) a.ps)) ⟨evp, s5.get 20 rfl⟩
  refine wp_count a.ps.length 22 (PLI w F bs a vp) (fun _ _ _ ⟨_, _, hs, _⟩ => hs.get 22 rfl) ⟨_, gr, s5.to _ ⟨rfl, rfl, rfl, rfl, True.intro⟩, z5⟩ fun i a6 w6 hi6 hI => ?_
  obtain ⟨v, gr, s6, z6⟩ := hI
  have hll := labTo_len (bs := bs) (a := a) hi6
  refine wp_seq ?_
  refine flowC mixed (s6.keep (sc 5 rfl (sc 20 rfl (sc 21 rfl (sc 22 rfl sn))))) (by kernel_rfl) (by kernel_rfl) (cc rfl (p_bin g0 (od rfl id) (od rfl id) b_lss_3) cn) fun a7 w7 b7 s7 => ?_
  have z7 := z6.trans (b7.mono z6.size)
  have gr := gr.below b7
  refine wp_seq ?_
  refine s7.cond 23 rfl (fun h => ?_) (fun h => ?_)
  · -- true
    have hlt : i < a.ps.length := by simpa using h
    obtain ⟨pr, ep⟩ : ∃ x, a.ps[i]? = some x := ⟨_, List.getElem?_eq_getElem hlt⟩
    refine wp_skip ?_
    refine wp_seq ?_
    refine wp_block ?_
    refine wp_seq ?_
    refine flowQ 3 mixed (s7.keep (sc 5 rfl (sc 20 rfl (sc 21 rfl (sc 22 rfl (sc 23 rfl sn)))))) (by kernel_rfl) (by kernel_rfl) (cc rfl (p_index ix_37 ep g0 (od2 rfl id) (od rfl id))
        (cc rfl (p_load Try.underlying90 rfl sz_90 g0 (od rfl id))
        (ca rfl (m_alloc al_90 (fun h => h.elim)) cn))) (by kernel_rfl) (ss rfl rfl rfl rfl puts_st sz_90 rfl rfl ss0) fun a8 w8 b8 s8 => ?_
    have z8 := z7.trans (b8.mono z7.size)
    have gr := gr.below b8
    have s8' := s8.more 5 (y := .both (.past w8.heap.size) (.by (labTo bs a i))) ⟨Nat.le_refl _, (s8.get 5 rfl).2⟩
    refine flowR 9 mixed (s8'.keep (sc 5 rfl (sc 7 rfl (sc 20 rfl (sc 21 rfl (sc 22 rfl sn)))))) (by kernel_rfl) (by kernel_rfl) (cc rfl (p_move g0 (od rfl id))
        (cc rfl (p_fieldAddr pt90_0 fa_90_0 g0 (od rfl id))
        (cc rfl (p_loadI ld_70 g0 (od rfl id))
        (cc rfl (p_conv g0 (od rfl id) cv_70_23)
        (cc rfl (p_call 29 g0 (ox (od rfl id) (ox (oc _) (ox (od rfl id) ox0))) (fun _ _ => by kernel_rfl) (f29own (B := w8.heap.size) (n := 4) (by omega) (by decide)))
        (cc rfl (p_fieldAddr pt90_1 fa_90_1 g0 (od rfl id))
        (cc rfl (p_loadI ld_3 g0 (od rfl id))
        (cc rfl (p_conv g0 (od rfl id) cv_3_5)
        (cc rfl (p_lits1 bs_22_1 g0 (od rfl id)) cn))))))))) fun a9 w9 b9 s9 => ?_
    have z9 := z8.trans (b9.mono z8.size)
    show wpList _ _ _ (_ :: _) _ _
    refine own_grow (F0 := F) (B := w.heap.size) (l := labTo bs a i ++ Pk.putL 4 (IntKind.u64.wrap pr.1)) (l2 := [IntKind.u8.wrap pr.2]) byF 30 34 id s8 s9 b9 (fun _ h => .inl h) rfl rfl (by decide) rfl Try.underlying22 hi0 hz0 hz1 hz2 rfl (by decide) rfl rfl (ag 20 rfl rfl (av 21 rfl (av 22 rfl an))) z8.size (by unfold maxLen; simp [Pk.putL_length]; omega) (by simp [Pk.putL_length]; omega) fun v w10 gr b10 s10 => ?_
    have z10 := z8.trans (b10.mono z8.size)
    rw [← labTo_step ep] at gr s10
    refine chainT (t := []) (cc rfl (p_assign g0 (od rfl id)) cn) (by kernel_rfl) s10 fun a11 w11 b11 s11 => wpList_done ?_
    have z11 := z10.trans (b11.mono z10.size)
    have gr := gr.below b11
    refine flowT (s11.keep (sc 5 rfl (sc 20 rfl (sc 21 rfl (sc 22 rfl (sc 35 rfl sn)))))) (by kernel_rfl) (cc rfl (p_bin g0 (od rfl id) (oc _) (inc_3 (by omega)))
        (cc rfl (p_move g0 (od rfl id)) cn)) fun a12 w12 b12 s12 => ?_
    have z12 := z11.trans (b12.mono z11.size)
    have gr := gr.below b12
    exact ⟨hlt, v, gr, s12.to _ ⟨rfl, rfl, rfl, rfl, True.intro⟩, z12⟩
  · -- false
    obtain rfl : i = a.ps.length := by have := of_decide_eq_false h; (try dsimp only at this); omega
    rw [labTo_end] at gr s7
    refine wp_exit ?_
    refine wp_seq ?_
    refine flowC mixed (s7.keep (sc 5 rfl (sc 20 rfl (sc 21 rfl (sc 22 rfl sn))))) (by kernel_rfl) (by kernel_rfl) (cc rfl (p_move g0 (od rfl id))
        (cc rfl (p_assign g0 (od rfl id)) cn)) fun a13 w13 b13 s13 => ?_
    have z13 := z7.trans (b13.mono z7.size)
    have gr := gr.below b13
    have s13 := s13.less (F' := F) (fun _ h => .inl h)
    have q4 := (s13.get 4 rfl).1
    have s13 := s13.more 4 (y := .both (.own B 5 byL.n (bs ++ labB a).length ((bs ++ labB a).flatMap byE)) (.by (bs ++ labB a))) ⟨⟨by rw [show _ = _ from q4]; exact own_mono gr.own h0.1, by rw [show _ = _ from q4]; exact gr.dis⟩, (s13.get 4 rfl).2⟩
    exact wp_ret (ret_tmp (fn := Try.f37) s13 4 rfl rfl (fun _ h => h) z13)
theorem f37f {U : Prop} {B : Nat} {bs : List Int} {a : Lab} {n : Nat} (hb : bs.length ≤ 100000) (hn : n ≤ 100000) : Fn U Try.prog 37 [.fr B bs, .lb a n] (.fr B (bs ++ labB a)) := fn_fr (fn_any (fn2 fun w F v1 v2 h1 h2 hF => by
  have hl := (lab_in h2).2.len
  exact f37o (B := B) (bs := bs) (a := a) hb (by omega) w F [v1, v2] rfl (fun i v y e1 e2 => by
    match i, e1, e2 with
    | 0, e1, e2 => simp at e1 e2; subst e1 e2; exact h1
    | 1, e1, e2 => simp at e1 e2; subst e1 e2; exact lab_raw h2) hF))
theorem own_appF {U : Prop} {P : Program} {Q : Exit → Act → World → Prop} {N : Nat} {e : Env} {F : Cell → Prop} {a : Act} {w : World} {B : Nat} {ops : Array Oper} {rest : List Oper} {o : Oper} {T : TypeId} {l l2 : List Int} {y1 : Sym} {i : TypeInfo} {z : Value} {bytes d : Nat} {e1 : Env} {a1 : Act} {w1 : World} {x y : Operand} (hB : B ≤ w1.heap.size) (h1 : StE U N e1 F a1 w1) (h : StE U N e F a w) (hb : Below w1.heap.size w1 w)
    (ho : o.op = .call { callee := .builtin .append, args := #[x, y], argTypes := #[T, T] }) (hd : o.dst = some d) (hdN : decide (d < N) = true) (hgd : o.guard = none)
    (ht : P.underlying T = some (.slice 5)) (hi : P.info? 5 = some i) (hz : i.zero = some z) (hsize : i.size = byL.n) (hby : i.bytes = bytes) (hzs : z.cells.size = byL.n) (hsz : 0 < byL.n)
    (hx : OpdE e true x (.both (.own w1.heap.size 5 byL.n l.length (l.flatMap byE)) y1)) (hy : OpdE e true y (.one (Lay.sl byL) l2)) (h63 : l.length + l2.length ≤ maxLen) (hbytes : (l.length + l2.length) * bytes ≤ 140737488355328)
    (hQ : ∀ a' w', Below w1.heap.size w1 w' → StE U N [(d, true, .fr B (l ++ l2))] F a' w' → wpList P ops Q rest a' w') : wpList P ops Q (o :: rest) a w := by
  have hf := byF
  obtain ⟨hown, _⟩ := (hx a w F (fun s _ => h.known s) rfl).1
  obtain ⟨A, cp, e2, hr, _⟩ := reads_of_sl hf (hy a w F (fun s _ => h.known s) rfl)
  refine wpList_plain hgd fun K hK => ?_
  refine wp_append_any w x y T ho w1.heap.size 5 i z byL.n bytes ht hi hz hsize hby hzs hsz (a.eval x) l.length _ rfl hown w.heap.size A l2.length cp _ e2 hr (hf.ones l2) h63 hbytes hb.size fun v' w' h2 h3 _ => hK _ _ ?_
  have hb' : Below w1.heap.size w1 w' := hb.grown h3 hb.size fun k e => own_base hown e
  have hown' : w'.ownsRow w1.heap.size 5 byL.n v' (l ++ l2).length ((l ++ l2).flatMap byE) := by rw [List.length_append, List.flatMap_append]; exact h2
  have hsl := sl_of_own (F := F) hf hown' fun g o hg _ hF => by
    have := own_base hown' hg
    have := h1.fok.lt (g, o) hF
    simp only at this
    omega
  rw [hd]
  refine hQ _ w' hb' ⟨by simp [Act.put, h.size], h.defers, h1.fok.below hb', fun s k hk => ?_⟩
  rw [List.lookup_cons] at hk
  cases hs : s == d with
  | false => rw [hs] at hk; cases hk
  | true =>
    rw [hs] at hk
    simp at hk hs
    subst hs hk
    have hdN' : s < N := by simpa using hdN
    have : (a.put (some s) v').tmps.getD s undef = v' := by simp [Act.put, h.size, hdN']
    rw [this]
    exact ⟨fun _ => ⟨⟨Nat.le_trans hB hb'.size, own_mono hown' hB, fun g o hg hF => by
      have := own_base hown' hg
      have := h1.fok.lt (g, o) hF
      simp only at this
      omega⟩, hsl⟩, fun e => by cases e⟩
attribute [local simp] Pk.putL_length labB_len mapsB_length puts2_length cfH_length slsB_length
set_option maxHeartbeats 1600000 in
set_option maxRecDepth 100000 in
theorem f116f {U : Prop} {B : Nat} {bs : List Int} {o : Ob} (hT : TellO o) (hl : (bs ++ obB o).length ≤ 100000) : Fn U Try.prog 116 [.fr B bs, .st obL o] (.fr B (bs ++ obB o)) := fn2 fun w F v0 v1 h0 h1 hF => by
  obtain ⟨i1, hj0, hj1, hj2, hj3⟩ := info_parts Try.info5
  have hO := okb_of hT
  have hlab := hT.lab.len
  have ek := u64_id hT.k
  have ep := u64_id hT.par
  have hlH := hl
  rw [obH_split, List.length_append] at hlH
  have hH : (obH bs o).length ≤ 100000 := by omega
  have hb : bs.length ≤ 99996 := by have h2 := hH; simp [obH, Pk.putL_length, labB_len] at h2; omega
  go_enter Try.func116, Try.ntmps116
  refine wp_seq ?_
  refine flowC mixed (st0 (U := U) (N := 104) (e := [(0, true, .fr B bs), (1, true, .st obL o)]) (F := F) rfl rfl hF ⟨⟨rfl, h0⟩, ⟨⟨rfl, h1⟩, True.intro⟩⟩) (by kernel_rfl) (by kernel_rfl) (cc rfl (p_box bx_67 g0 (od rfl id))
      (cc rfl (p_assign g0 (oc _)) cn)) fun a1 w1 b1 s1 => ?_
  have z1 := b1
  refine wp_seq ?_
  refine flowR 12 mixed (s1.keep (sc 0 rfl (sc 3 rfl (sc 4 rfl sn)))) (by kernel_rfl) (by kernel_rfl) (cc rfl (p_move g0 (od rfl id))
      (cc rfl (p_fieldAddr pt67_0 fa_67_0 g0 (od rfl id))
      (cc rfl (p_loadI ld_3 g0 (od rfl id))
      (cc rfl (p_conv g0 (od rfl id) (cv_id ek))
      (cc rfl (p_call 29 g0 (ox (od rfl id) (ox (oc _) (ox (od rfl id) ox0))) (fun _ _ => by kernel_rfl) (f29f (n := 1) (by first | omega | (simp; omega) | simp) (by decide)))
      (cc rfl (p_fieldAddr pt67_1 fa_67_1 g0 (od rfl id))
      (cc rfl (p_loadI ld_3 g0 (od rfl id))
      (cc rfl (p_conv g0 (od rfl id) (cv_id ep))
      (cc rfl (p_call 29 g0 (ox (od rfl id) (ox (oc _) (ox (od rfl id) ox0))) (fun _ _ => by kernel_rfl) (f29f (n := 1) (by first | omega | (simp; omega) | simp) (by decide)))
      (cc rfl (p_fieldAddr pt67_2 fa_67_2 g0 (od rfl id))
      (cc rfl (p_load Try.underlying39 rfl sz_39 g0 (od rfl id))
      (cc rfl (p_call 37 g0 (ox (od rfl id) (ox (od rfl id) ox0)) (fun _ _ => by kernel_rfl) (f37f (by first | omega | (simp; omega) | simp) (by decide))) cn)))))))))))) fun a2 w2 b2 s2 => ?_
  have z2 := z1.trans (b2.mono z1.size)
  refine chainT (t := []) (cc rfl (p_assign g0 (od rfl id)) cn) (by kernel_rfl) s2 fun a3 w3 b3 s3 => wpList_done ?_
  have z3 := z2.trans (b3.mono z2.size)
  have s3 := s3.more 0 (y := .fr B (obH bs o)) (s3.get 0 rfl)
  refine wp_seq ?_
  refine wp_seq ?_
  refine flowC mixed (s3.keep (sc 0 rfl (sc 3 rfl (sc 4 rfl sn)))) (by kernel_rfl) (by kernel_rfl) (cc rfl (p_fieldAddr pt67_0 fa_67_0 g0 (od rfl id))
      (cc rfl (p_loadI ld_3 g0 (od rfl id)) cn)) fun a4 w4 b4 s4 => ?_
  have z4 := z3.trans (b4.mono z3.size)
  refine wp_block ?_
  refine wp_seq ?_
  refine flowC mixed (s4.keep (sc 0 rfl (sc 3 rfl (sc 4 rfl (sc 23 rfl sn))))) (by kernel_rfl) (by kernel_rfl) (cc rfl (p_bin g0 (od rfl id) (oc _) b_eql_3)
      (cc rfl (p_assign g0 (od rfl id)) cn)) fun a5 w5 b5 s5 => ?_
  have z5 := z4.trans (b5.mono z4.size)
  refine s5.cond 24 rfl (fun h24 => ?_) (fun h24 => ?_)
  · -- true
    have p1 : o.k = 1 := by simpa using h24
    obtain ⟨q1, q2⟩ := hO.b1 p1
    have eg := u64_id q1
    have en := u64_id q2
    refine flowR 9 mixed (s5.keep (sc 0 rfl (sc 3 rfl (sc 4 rfl sn)))) (by kernel_rfl) (by kernel_rfl) (cc rfl (p_move g0 (od rfl id))
        (cc rfl (p_fieldAddr pt67_4 fa_67_4 g0 (od rfl id))
        (cc rfl (p_loadI ld_3 g0 (od rfl id))
        (cc rfl (p_conv g0 (od rfl id) (cv_id eg))
        (cc rfl (p_call 29 g0 (ox (od rfl id) (ox (oc _) (ox (od rfl id) ox0))) (fun _ _ => by kernel_rfl) (f29f (n := 2) (by first | omega | (simp; omega) | simp) (by decide)))
        (cc rfl (p_fieldAddr pt67_5 fa_67_5 g0 (od rfl id))
        (cc rfl (p_loadI ld_3 g0 (od rfl id))
        (cc rfl (p_conv g0 (od rfl id) (cv_id en))
        (cc rfl (p_call 29 g0 (ox (od rfl id) (ox (oc _) (ox (od rfl id) ox0))) (fun _ _ => by kernel_rfl) (f29f (n := 4) (by first | omega | (simp; omega) | simp) (by decide))) cn))))))))) fun a6 w6 b6 s6 => ?_
    have z6 := z5.trans (b6.mono z5.size)
    refine chainT (t := []) (cc rfl (p_assign g0 (od rfl id)) cn) (by kernel_rfl) s6 fun a7 w7 b7 s7 => wpList_done ?_
    have z7 := z6.trans (b7.mono z6.size)
    refine wp_seq ?_
    refine flowT (s7.keep (sc 0 rfl (sc 4 rfl sn))) (by kernel_rfl) (cc rfl (p_move g0 (od rfl id))
        (cc rfl (p_assign g0 (od rfl id)) cn)) fun a8 w8 b8 s8 => ?_
    have z8 := z7.trans (b8.mono z7.size)
    have s8 := s8.more 4 (y := .fr B (bs ++ obB o)) (by rw [← enc1 p1]; exact s8.get 4 rfl)
    exact wp_ret (ret_tmp (fn := Try.f116) s8 4 rfl rfl (fun _ h => h) z8)
  · -- false
    have p1 : ¬ o.k = 1 := by simpa using h24
    refine wp_seq ?_
    refine flowC mixed (s5.keep (sc 0 rfl (sc 3 rfl (sc 4 rfl (sc 23 rfl sn))))) (by kernel_rfl) (by kernel_rfl) (cc rfl (p_bin g0 (od rfl id) (oc _) b_eql_3)
        (cc rfl (p_assign g0 (od rfl id)) cn)) fun a9 w9 b9 s9 => ?_
    have z9 := z5.trans (b9.mono z5.size)
    refine s9.cond 35 rfl (fun h35 => ?_) (fun h35 => ?_)
    · -- true
      have p2 : o.k = 2 := by simpa using h35
      obtain ⟨q1, q2, q3⟩ := hO.b2 p2
      have eg := u64_id q1
      have ed := u64_id q2
      have hB0 := (s9.get 0 rfl).1.1
      have s9 := s9.more 0 (y := .both (.past w9.heap.size) (.by (obH bs o))) ⟨Nat.le_refl _, (s9.get 0 rfl).2⟩
      refine flowR 12 mixed (s9.keep (sc 0 rfl (sc 3 rfl sn))) (by kernel_rfl) (by kernel_rfl) (cc rfl (p_move g0 (od rfl id))
          (cc rfl (p_fieldAddr pt67_4 fa_67_4 g0 (od rfl id))
          (cc rfl (p_loadI ld_3 g0 (od rfl id))
          (cc rfl (p_conv g0 (od rfl id) (cv_id eg))
          (cc rfl (p_call 29 g0 (ox (od rfl id) (ox (oc _) (ox (od rfl id) ox0))) (fun _ _ => by kernel_rfl) (fn_past (f29 (n := 1) (by first | omega | (simp; omega) | simp) (by decide))))
          (cc rfl (p_fieldAddr pt67_6 fa_67_6 g0 (od rfl id))
          (cc rfl (p_load1 rfl ld_22 g0 (od rfl id))
          (cc rfl (p_len ln_22 g0 (od rfl id))
          (cc rfl (p_conv g0 (od rfl id) (cv_id ed))
          (cc rfl (p_call 29 g0 (ox (od rfl id) (ox (oc _) (ox (od rfl id) ox0))) (fun _ _ => by kernel_rfl) (f29own (n := 2) (by first | omega | (simp; omega) | simp) (by decide)))
          (cc rfl (p_fieldAddr pt67_6 fa_67_6 g0 (od rfl id))
          (cc rfl (p_load1 rfl ld_22 g0 (od rfl id)) cn)))))))))))) fun a10 w10 b10 s10 => ?_
      show wpList _ _ _ (_ :: _) _ _
      refine own_appF (B := B) hB0 s9 s10 b10 rfl rfl (by decide) rfl Try.underlying22 hj0 hj1 hj2 hj3 rfl (by decide) (od rfl id) (od rfl id) (by unfold maxLen; first | omega | (simp; omega) | simp) (by first | omega | (simp; omega) | simp) fun a11 w11 b11 s11 => ?_
      have z11 := z9.trans (b11.mono z9.size)
      refine chainT (t := []) (cc rfl (p_assign g0 (od rfl id)) cn) (by kernel_rfl) s11 fun a12 w12 b12 s12 => wpList_done ?_
      have z12 := z11.trans (b12.mono z11.size)
      refine wp_seq ?_
      refine flowC mixed (s12.keep (sc 0 rfl sn)) (by kernel_rfl) (by kernel_rfl) (cc rfl (p_move g0 (od rfl id))
          (cc rfl (p_assign g0 (od rfl id)) cn)) fun a13 w13 b13 s13 => ?_
      have z13 := z12.trans (b13.mono z12.size)
      have s13 := s13.more 4 (y := .fr B (bs ++ obB o)) (by rw [← enc2 p2]; exact s13.get 4 rfl)
      exact wp_ret (ret_tmp (fn := Try.f116) s13 4 rfl rfl (fun _ h => h) z13)
    · -- false
      have p2 : ¬ o.k = 2 := by simpa using h35
      refine wp_seq ?_
      refine flowC mixed (s9.keep (sc 0 rfl (sc 3 rfl (sc 4 rfl (sc 23 rfl sn))))) (by kernel_rfl) (by kernel_rfl) (cc rfl (p_bin g0 (od rfl id) (oc _) b_eql_3)
          (cc rfl (p_assign g0 (od rfl id)) cn)) fun a14 w14 b14 s14 => ?_
      have z14 := z9.trans (b14.mono z9.size)
      refine s14.cond 50 rfl (fun h50 => ?_) (fun h50 => ?_)
      · -- true
        have p4 : o.k = 4 := by simpa using h50
        obtain ⟨q1, q2⟩ := hO.b4 p4
        have em := u64_id q1
        have hml : o.mps.length < 256 := by have := q1.2; omega
        refine wp_seq ?_
        refine flowT (s14.keep (sc 0 rfl (sc 3 rfl (sc 4 rfl sn)))) (by kernel_rfl) (cc rfl (p_move g0 (od rfl id))
            (cc rfl (p_fieldAddr pt67_7 fa_67_7 g0 (od rfl id))
            (cc rfl (p_load1 rfl ld_65 g0 (od rfl id))
            (cc rfl (p_len ln_65 g0 (od rfl id))
            (cc rfl (p_conv g0 (od rfl id) (cv_id em))
            (cc rfl (p_call 29 g0 (ox (od rfl id) (ox (oc _) (ox (od rfl id) ox0))) (fun _ _ => by kernel_rfl) (f29f (n := 1) (by first | omega | (simp; omega) | simp) (by decide)))
            (cc rfl (p_assign g0 (od rfl id)) cn))))))) fun a15 w15 b15 s15 => ?_
        have z15 := z14.trans (b15.mono z14.size)
        refine wp_seq ?_
        refine flowC mixed (s15.keep (sc 0 rfl (sc 3 rfl (sc 4 rfl sn)))) (by kernel_rfl) (by kernel_rfl) (cc rfl (p_fieldAddr pt67_7 fa_67_7 g0 (od rfl id))
            (cc rfl (p_load1 rfl ld_65 g0 (od rfl id))
            (cc rfl (p_len ln_65 g0 (od rfl id))
            (cc rfl (p_move g0 (oc _)) cn)))) fun a16 w16 b16 s16 => ?_
        have z16 := z15.trans (b16.mono z15.size)
        have s16 := s16.more 0 (y := .fr B (obH bs o ++ Pk.putL 1 (o.mps.length : Int) ++ (o.mps.take 0).flatMap mapB)) (by rw [List.take_zero, List.flatMap_nil, List.append_nil]; exact s16.get 0 rfl)
        refine wp_block ?_
        refine wp_range o.mps.length 61 (fun i => [(0, true, .fr B (obH bs o ++ Pk.putL 1 (o.mps.length : Int) ++ (o.mps.take i).flatMap mapB))]) (fun _ _ => True) (s16.keep (sc 61 rfl (sc 0 rfl (sc 4 rfl (sc 59 rfl (sc 60 rfl sn)))))) z16 True.intro fun i a17 w17 hi1 s17 z17 x17 => ?_
        refine wp_seq ?_
        refine flowC mixed (s17.keep (sc 0 rfl (sc 4 rfl (sc 59 rfl (sc 60 rfl (sc 61 rfl sn)))))) (by kernel_rfl) (by kernel_rfl) (cc rfl (p_bin g0 (od rfl id) (od rfl id) b_lss_3) cn) fun a18 w18 b18 s18 => ?_
        have z18 := z17.trans (b18.mono z17.size)
        refine wp_seq ?_
        refine s18.cond 62 rfl (fun h62 => ?_) (fun h62 => ?_)
        · -- true
          have hlt1 : i < o.mps.length := by simpa using h62
          obtain ⟨m, em1⟩ : ∃ x, o.mps[i]? = some x := ⟨_, List.getElem?_eq_getElem hlt1⟩
          have hm := q2 m (List.mem_of_getElem? em1)
          have e1 := u64_id hm.pa
          have e2 := u64_id hm.fr
          have e3 := u64_id hm.nn
          refine wp_skip ?_
          refine wp_seq ?_
          refine wp_block ?_
          refine wp_seq ?_
          refine flowQ 3 mixed (s18.keep (sc 0 rfl (sc 4 rfl (sc 59 rfl (sc 60 rfl (sc 61 rfl (sc 62 rfl sn))))))) (by kernel_rfl) (by kernel_rfl) (cc rfl (p_index ix_65 em1 g0 (od rfl id) (od rfl id))
              (cc rfl (p_load u_145 ur_145 sz_145 g0 (od rfl id))
              (ca rfl (m_alloc al_145 nu145) cn))) (by kernel_rfl) (ss rfl rfl rfl rfl puts_st sz_145 rfl rfl ss0) fun a19 w19 b19 s19 => ?_
          have z19 := z18.trans (b19.mono z18.size)
          refine wp_seq ?_
          refine flowC mixed (s19.keep (sc 0 rfl (sc 4 rfl (sc 6 rfl (sc 59 rfl (sc 60 rfl (sc 61 rfl (sc 62 rfl (sc 63 rfl (sc 64 rfl sn)))))))))) (by kernel_rfl) (by kernel_rfl) (cc rfl (p_assign g0 (oc _)) cn) fun a20 w20 b20 s20 => ?_
          have z20 := z19.trans (b20.mono z19.size)
          refine wp_seq ?_
          refine wp_seq ?_
          refine flowC mixed (s20.keep (sc 0 rfl (sc 4 rfl (sc 6 rfl (sc 7 rfl (sc 59 rfl (sc 60 rfl (sc 61 rfl (sc 62 rfl (sc 63 rfl (sc 64 rfl sn))))))))))) (by kernel_rfl) (by kernel_rfl) (cc rfl (p_fieldAddr pt145_4 fa_145_4 g0 (od rfl id))
              (cc rfl (p_loadB ld_4 g0 (od rfl id)) cn)) fun a21 w21 b21 s21 => ?_
          have z21 := z20.trans (b21.mono z20.size)
          refine s21.cond 66 rfl (fun h66 => ?_) (fun h66 => ?_)
          · -- true
            have hw : m.wr = true := h66
            refine flowT (s21.keep (sc 0 rfl (sc 4 rfl (sc 6 rfl (sc 7 rfl (sc 59 rfl (sc 60 rfl (sc 61 rfl (sc 62 rfl (sc 63 rfl (sc 64 rfl (sc 65 rfl (sc 66 rfl sn))))))))))))) (by kernel_rfl) (cc rfl (p_assign g0 (oc _)) cn) fun a22 w22 b22 s22 => ?_
            have z22 := z21.trans (b22.mono z21.size)
            have s22 := s22.more 7 (y := .int .u64 (if m.wr then 1 else 0)) (by rw [hw]; exact s22.get 7 rfl)
            refine wp_seq ?_
            refine flowC mixed (s22.keep (sc 0 rfl (sc 4 rfl (sc 6 rfl (sc 7 rfl (sc 59 rfl (sc 60 rfl (sc 61 rfl (sc 62 rfl (sc 63 rfl (sc 64 rfl (sc 65 rfl (sc 66 rfl sn))))))))))))) (by kernel_rfl) (by kernel_rfl) (cc rfl (p_fieldAddr pt145_0 fa_145_0 g0 (od rfl id))
                (cc rfl (p_loadI ld_3 g0 (od rfl id))
                (cc rfl (p_conv g0 (od rfl id) (cv_id e1))
                (cc rfl (p_fieldAddr pt145_1 fa_145_1 g0 (od rfl id))
                (cc rfl (p_loadI ld_23 g0 (od rfl id))
                (cc rfl (p_fieldAddr pt145_2 fa_145_2 g0 (od rfl id))
                (cc rfl (p_loadI ld_3 g0 (od rfl id))
                (cc rfl (p_conv g0 (od rfl id) (cv_id e2))
                (cc rfl (p_fieldAddr pt145_3 fa_145_3 g0 (od rfl id))
                (cc rfl (p_loadI ld_3 g0 (od rfl id))
                (cc rfl (p_conv g0 (od rfl id) (cv_id e3))
                (cc rfl (p_move g0 (od rfl id))
                (cc rfl (p_bd153 g0 (od rfl id) (od rfl id) (od rfl id) (od rfl id) (od rfl id))
                (cc rfl (p_move g0 (oc _)) cn)))))))))))))) fun a23 w23 b23 s23 => ?_
            have z23 := z22.trans (b23.mono z22.size)
            refine wp_block ?_
            have s23 := s23.more 0 (y := .fr B (obH bs o ++ Pk.putL 1 (o.mps.length : Int) ++ (o.mps.take i).flatMap mapB ++ ((fiveL m).take 0).flatMap (Pk.putL 2))) (by rw [List.take_zero, List.flatMap_nil, List.append_nil]; exact s23.get 0 rfl)
            refine wp_range 5 80 (fun j => [(0, true, .fr B (obH bs o ++ Pk.putL 1 (o.mps.length : Int) ++ (o.mps.take i).flatMap mapB ++ ((fiveL m).take j).flatMap (Pk.putL 2)))]) (fun _ _ => True) (s23.keep (sc 80 rfl (sc 0 rfl (sc 4 rfl (sc 6 rfl (sc 7 rfl (sc 59 rfl (sc 60 rfl (sc 61 rfl (sc 62 rfl (sc 63 rfl (sc 64 rfl (sc 65 rfl (sc 66 rfl (sc 67 rfl (sc 68 rfl (sc 69 rfl (sc 70 rfl (sc 71 rfl (sc 72 rfl (sc 73 rfl (sc 74 rfl (sc 75 rfl (sc 76 rfl (sc 77 rfl (sc 78 rfl (sc 79 rfl sn))))))))))))))))))))))))))) z23 True.intro fun j a24 w24 hj24 s24 z24 x24 => ?_
            refine wp_seq ?_
            refine flowC mixed (s24.keep (sc 0 rfl (sc 4 rfl (sc 6 rfl (sc 7 rfl (sc 59 rfl (sc 60 rfl (sc 61 rfl (sc 62 rfl (sc 63 rfl (sc 64 rfl (sc 65 rfl (sc 66 rfl (sc 67 rfl (sc 68 rfl (sc 69 rfl (sc 70 rfl (sc 71 rfl (sc 72 rfl (sc 73 rfl (sc 74 rfl (sc 75 rfl (sc 76 rfl (sc 77 rfl (sc 78 rfl (sc 79 rfl (sc 80 rfl sn))))))))))))))))))))))))))) (by kernel_rfl) (by kernel_rfl) (cc rfl (p_bin g0 (od rfl id) (oc _) b_lss_3) cn) fun a25 w25 b25 s25 => ?_
            have z25 := z24.trans (b25.mono z24.size)
            refine wp_seq ?_
            refine s25.cond 81 rfl (fun h81 => ?_) (fun h81 => ?_)
            · -- true
              have hj5 : j < 5 := by have := of_decide_eq_true h81; (try dsimp only at this); omega
              obtain ⟨xv, ex⟩ : ∃ x, (fiveL m)[j]? = some x := ⟨_, List.getElem?_eq_getElem hj5⟩
              have hlB : (obH bs o ++ Pk.putL 1 (o.mps.length : Int) ++ (o.mps.take i).flatMap mapB ++ ((fiveL m).take j).flatMap (Pk.putL 2)).length ≤ 1000000 := by simp only [List.length_append, Pk.putL_length, mapsB_length, puts2_length, List.length_take]; omega
              refine wp_skip ?_
              refine wp_seq ?_
              refine wp_block ?_
              refine wp_seq ?_
              refine flowC mixed (s25.keep (sc 0 rfl (sc 4 rfl (sc 6 rfl (sc 7 rfl (sc 59 rfl (sc 60 rfl (sc 61 rfl (sc 62 rfl (sc 63 rfl (sc 64 rfl (sc 65 rfl (sc 66 rfl (sc 67 rfl (sc 68 rfl (sc 69 rfl (sc 70 rfl (sc 71 rfl (sc 72 rfl (sc 73 rfl (sc 74 rfl (sc 75 rfl (sc 76 rfl (sc 77 rfl (sc 78 rfl (sc 79 rfl (sc 80 rfl (sc 81 rfl sn)))))))))))))))))))))))))))) (by kernel_rfl) (by kernel_rfl) (cc rfl (p_ix153 ex g0 (od rfl id) (od rfl id))
                  (cc rfl (p_assign g0 (od rfl id)) cn)) fun a26 w26 b26 s26 => ?_
              have z26 := z25.trans (b26.mono z25.size)
              refine flowT (s26.keep (sc 0 rfl (sc 4 rfl (sc 6 rfl (sc 7 rfl (sc 9 rfl (sc 59 rfl (sc 60 rfl (sc 61 rfl (sc 62 rfl (sc 63 rfl (sc 64 rfl (sc 65 rfl (sc 66 rfl (sc 67 rfl (sc 68 rfl (sc 69 rfl (sc 70 rfl (sc 71 rfl (sc 72 rfl (sc 73 rfl (sc 74 rfl (sc 75 rfl (sc 76 rfl (sc 77 rfl (sc 78 rfl (sc 79 rfl (sc 80 rfl (sc 81 rfl (sc 82 rfl sn)))))))))))))))))))))))))))))) (by kernel_rfl) (cc rfl (p_move g0 (od rfl id))
                  (cc rfl (p_move g0 (od rfl id))
                  (cc rfl (p_call 29 g0 (ox (od rfl id) (ox (oc _) (ox (od rfl id) ox0))) (fun _ _ => by kernel_rfl) (f29f (n := 2) hlB (by decide)))
                  (cc rfl (p_assign g0 (od rfl id)) cn)))) fun a27 w27 b27 s27 => ?_
              have z27 := z26.trans (b27.mono z26.size)
              have s27 := s27.more 0 (y := .fr B (obH bs o ++ Pk.putL 1 (o.mps.length : Int) ++ (o.mps.take i).flatMap mapB ++ ((fiveL m).take (j + 1)).flatMap (Pk.putL 2))) (by rw [flat_succ ex, ← List.append_assoc]; exact s27.get 0 rfl)
              refine flowT (s27.keep (sc 0 rfl (sc 4 rfl (sc 6 rfl (sc 7 rfl (sc 9 rfl (sc 59 rfl (sc 60 rfl (sc 61 rfl (sc 62 rfl (sc 63 rfl (sc 64 rfl (sc 65 rfl (sc 66 rfl (sc 67 rfl (sc 68 rfl (sc 69 rfl (sc 70 rfl (sc 71 rfl (sc 72 rfl (sc 73 rfl (sc 74 rfl (sc 75 rfl (sc 76 rfl (sc 77 rfl (sc 78 rfl (sc 79 rfl (sc 80 rfl (sc 81 rfl (sc 82 rfl (sc 83 rfl (sc 84 rfl (sc 85 rfl sn))))))))))))))))))))))))))))))))) (by kernel_rfl) (cc rfl (p_bin g0 (od rfl id) (oc _) (inc_3 (by omega)))
                  (cc rfl (p_move g0 (od rfl id)) cn)) fun a28 w28 b28 s28 => ?_
              have z28 := z27.trans (b28.mono z27.size)
              exact ⟨hj5, s28.to _ ⟨rfl, rfl, rfl, rfl, rfl, rfl, rfl, rfl, rfl, rfl, rfl, rfl, rfl, rfl, rfl, rfl, rfl, rfl, rfl, rfl, rfl, rfl, rfl, rfl, rfl, rfl, True.intro⟩, z28, True.intro⟩
            · -- false
              obtain rfl : j = 5 := by have := of_decide_eq_false h81; (try dsimp only at this); omega
              have s25 := s25.more 0 (y := .fr B (obH bs o ++ Pk.putL 1 (o.mps.length : Int) ++ (o.mps.take (i + 1)).flatMap mapB)) (by have h := s25.get 0 rfl; rw [flat_succ em1, mapB_five, ← List.append_assoc]; exact h)
              refine wp_exit ?_
              refine flowT (s25.keep (sc 0 rfl (sc 4 rfl (sc 6 rfl (sc 7 rfl (sc 59 rfl (sc 60 rfl (sc 61 rfl (sc 62 rfl (sc 63 rfl (sc 64 rfl (sc 65 rfl (sc 66 rfl (sc 67 rfl (sc 68 rfl (sc 69 rfl (sc 70 rfl (sc 71 rfl (sc 72 rfl (sc 73 rfl (sc 74 rfl (sc 75 rfl (sc 76 rfl (sc 77 rfl (sc 78 rfl (sc 79 rfl (sc 80 rfl (sc 81 rfl sn)))))))))))))))))))))))))))) (by kernel_rfl) (cc rfl (p_bin g0 (od rfl id) (oc _) (inc_3 (by omega)))
                  (cc rfl (p_move g0 (od rfl id)) cn)) fun a29 w29 b29 s29 => ?_
              have z29 := z25.trans (b29.mono z25.size)
              exact ⟨hlt1, s29.to _ ⟨rfl, rfl, rfl, rfl, rfl, True.intro⟩, z29, True.intro⟩
          · -- false
            have hw : m.wr = false := h66
            have s21 := s21.more 7 (y := .int .u64 (if m.wr then 1 else 0)) (by rw [hw]; exact s21.get 7 rfl)
            refine wp_skip ?_
            refine wp_seq ?_
            refine flowC mixed (s21.keep (sc 0 rfl (sc 4 rfl (sc 6 rfl (sc 7 rfl (sc 59 rfl (sc 60 rfl (sc 61 rfl (sc 62 rfl (sc 63 rfl (sc 64 rfl (sc 65 rfl (sc 66 rfl sn))))))))))))) (by kernel_rfl) (by kernel_rfl) (cc rfl (p_fieldAddr pt145_0 fa_145_0 g0 (od rfl id))
                (cc rfl (p_loadI ld_3 g0 (od rfl id))
                (cc rfl (p_conv g0 (od rfl id) (cv_id e1))
                (cc rfl (p_fieldAddr pt145_1 fa_145_1 g0 (od rfl id))
                (cc rfl (p_loadI ld_23 g0 (od rfl id))
                (cc rfl (p_fieldAddr pt145_2 fa_145_2 g0 (od rfl id))
                (cc rfl (p_loadI ld_3 g0 (od rfl id))
                (cc rfl (p_conv g0 (od rfl id) (cv_id e2))
                (cc rfl (p_fieldAddr pt145_3 fa_145_3 g0 (od rfl id))
                (cc rfl (p_loadI ld_3 g0 (od rfl id))
                (cc rfl (p_conv g0 (od rfl id) (cv_id e3))
                (cc rfl (p_move g0 (od rfl id))
                (cc rfl (p_bd153 g0 (od rfl id) (od rfl id) (od rfl id) (od rfl id) (od rfl id))
                (cc rfl (p_move g0 (oc _)) cn)))))))))))))) fun a30 w30 b30 s30 => ?_
            have z30 := z21.trans (b30.mono z21.size)
            refine wp_block ?_
            have s30 := s30.more 0 (y := .fr B (obH bs o ++ Pk.putL 1 (o.mps.length : Int) ++ (o.mps.take i).flatMap mapB ++ ((fiveL m).take 0).flatMap (Pk.putL 2))) (by rw [List.take_zero, List.flatMap_nil, List.append_nil]; exact s30.get 0 rfl)
            refine wp_range 5 80 (fun j => [(0, true, .fr B (obH bs o ++ Pk.putL 1 (o.mps.length : Int) ++ (o.mps.take i).flatMap mapB ++ ((fiveL m).take j).flatMap (Pk.putL 2)))]) (fun _ _ => True) (s30.keep (sc 80 rfl (sc 0 rfl (sc 4 rfl (sc 6 rfl (sc 7 rfl (sc 59 rfl (sc 60 rfl (sc 61 rfl (sc 62 rfl (sc 63 rfl (sc 64 rfl (sc 65 rfl (sc 66 rfl (sc 67 rfl (sc 68 rfl (sc 69 rfl (sc 70 rfl (sc 71 rfl (sc 72 rfl (sc 73 rfl (sc 74 rfl (sc 75 rfl (sc 76 rfl (sc 77 rfl (sc 78 rfl (sc 79 rfl sn))))))))))))))))))))))))))) z30 True.intro fun j a31 w31 hj31 s31 z31 x31 => ?_
            refine wp_seq ?_
            refine flowC mixed (s31.keep (sc 0 rfl (sc 4 rfl (sc 6 rfl (sc 7 rfl (sc 59 rfl (sc 60 rfl (sc 61 rfl (sc 62 rfl (sc 63 rfl (sc 64 rfl (sc 65 rfl (sc 66 rfl (sc 67 rfl (sc 68 rfl (sc 69 rfl (sc 70 rfl (sc 71 rfl (sc 72 rfl (sc 73 rfl (sc 74 rfl (sc 75 rfl (sc 76 rfl (sc 77 rfl (sc 78 rfl (sc 79 rfl (sc 80 rfl sn))))))))))))))))))))))))))) (by kernel_rfl) (by kernel_rfl) (cc rfl (p_bin g0 (od rfl id) (oc _) b_lss_3) cn) fun a32 w32 b32 s32 => ?_
            have z32 := z31.trans (b32.mono z31.size)
            refine wp_seq ?_
            refine s32.cond 81 rfl (fun h81 => ?_) (fun h81 => ?_)
            · -- true
              have hj5 : j < 5 := by have := of_decide_eq_true h81; (try dsimp only at this); omega
              obtain ⟨xv, ex⟩ : ∃ x, (fiveL m)[j]? = some x := ⟨_, List.getElem?_eq_getElem hj5⟩
              have hlB : (obH bs o ++ Pk.putL 1 (o.mps.length : Int) ++ (o.mps.take i).flatMap mapB ++ ((fiveL m).take j).flatMap (Pk.putL 2)).length ≤ 1000000 := by simp only [List.length_append, Pk.putL_length, mapsB_length, puts2_length, List.length_take]; omega
              refine wp_skip ?_
              refine wp_seq ?_
              refine wp_block ?_
              refine wp_seq ?_
              refine flowC mixed (s32.keep (sc 0 rfl (sc 4 rfl (sc 6 rfl (sc 7 rfl (sc 59 rfl (sc 60 rfl (sc 61 rfl (sc 62 rfl (sc 63 rfl (sc 64 rfl (sc 65 rfl (sc 66 rfl (sc 67 rfl (sc 68 rfl (sc 69 rfl (sc 70 rfl (sc 71 rfl (sc 72 rfl (sc 73 rfl (sc 74 rfl (sc 75 rfl (sc 76 rfl (sc 77 rfl (sc 78 rfl (sc 79 rfl (sc 80 rfl (sc 81 rfl sn)))))))))))))))))))))))))))) (by kernel_rfl) (by kernel_rfl) (cc rfl (p_ix153 ex g0 (od rfl id) (od rfl id))
                  (cc rfl (p_assign g0 (od rfl id)) cn)) fun a33 w33 b33 s33 => ?_
              have z33 := z32.trans (b33.mono z32.size)
              refine flowT (s33.keep (sc 0 rfl (sc 4 rfl (sc 6 rfl (sc 7 rfl (sc 9 rfl (sc 59 rfl (sc 60 rfl (sc 61 rfl (sc 62 rfl (sc 63 rfl (sc 64 rfl (sc 65 rfl (sc 66 rfl (sc 67 rfl (sc 68 rfl (sc 69 rfl (sc 70 rfl (sc 71 rfl (sc 72 rfl (sc 73 rfl (sc 74 rfl (sc 75 rfl (sc 76 rfl (sc 77 rfl (sc 78 rfl (sc 79 rfl (sc 80 rfl (sc 81 rfl (sc 82 rfl sn)))))))))))))))))))))))))))))) (by kernel_rfl) (cc rfl (p_move g0 (od rfl id))
                  (cc rfl (p_move g0 (od rfl id))
                  (cc rfl (p_call 29 g0 (ox (od rfl id) (ox (oc _) (ox (od rfl id) ox0))) (fun _ _ => by kernel_rfl) (f29f (n := 2) hlB (by decide)))
                  (cc rfl (p_assign g0 (od rfl id)) cn)))) fun a34 w34 b34 s34 => ?_
              have z34 := z33.trans (b34.mono z33.size)
              have s34 := s34.more 0 (y := .fr B (obH bs o ++ Pk.putL 1 (o.mps.length : Int) ++ (o.mps.take i).flatMap mapB ++ ((fiveL m).take (j + 1)).flatMap (Pk.putL 2))) (by rw [flat_succ ex, ← List.append_assoc]; exact s34.get 0 rfl)
              refine flowT (s34.keep (sc 0 rfl (sc 4 rfl (sc 6 rfl (sc 7 rfl (sc 9 rfl (sc 59 rfl (sc 60 rfl (sc 61 rfl (sc 62 rfl (sc 63 rfl (sc 64 rfl (sc 65 rfl (sc 66 rfl (sc 67 rfl (sc 68 rfl (sc 69 rfl (sc 70 rfl (sc 71 rfl (sc 72 rfl (sc 73 rfl (sc 74 rfl (sc 75 rfl (sc 76 rfl (sc 77 rfl (sc 78 rfl (sc 79 rfl (sc 80 rfl (sc 81 rfl (sc 82 rfl (sc 83 rfl (sc 84 rfl (sc 85 rfl sn))))))))))))))))))))))))))))))))) (by kernel_rfl) (cc rfl (p_bin g0 (od rfl id) (oc _) (inc_3 (by omega)))
                  (cc rfl (p_move g0 (od rfl id)) cn)) fun a35 w35 b35 s35 => ?_
              have z35 := z34.trans (b35.mono z34.size)
              exact ⟨hj5, s35.to _ ⟨rfl, rfl, rfl, rfl, rfl, rfl, rfl, rfl, rfl, rfl, rfl, rfl, rfl, rfl, rfl, rfl, rfl, rfl, rfl, rfl, rfl, rfl, rfl, rfl, rfl, rfl, True.intro⟩, z35, True.intro⟩
            · -- false
              obtain rfl : j = 5 := by have := of_decide_eq_false h81; (try dsimp only at this); omega
              have s32 := s32.more 0 (y := .fr B (obH bs o ++ Pk.putL 1 (o.mps.length : Int) ++ (o.mps.take (i + 1)).flatMap mapB)) (by have h := s32.get 0 rfl; rw [flat_succ em1, mapB_five, ← List.append_assoc]; exact h)
              refine wp_exit ?_
              refine flowT (s32.keep (sc 0 rfl (sc 4 rfl (sc 6 rfl (sc 7 rfl (sc 59 rfl (sc 60 rfl (sc 61 rfl (sc 62 rfl (sc 63 rfl (sc 64 rfl (sc 65 rfl (sc 66 rfl (sc 67 rfl (sc 68 rfl (sc 69 rfl (sc 70 rfl (sc 71 rfl (sc 72 rfl (sc 73 rfl (sc 74 rfl (sc 75 rfl (sc 76 rfl (sc 77 rfl (sc 78 rfl (sc 79 rfl (sc 80 rfl (sc 81 rfl sn)))))))))))))))))))))))))))) (by kernel_rfl) (cc rfl (p_bin g0 (od rfl id) (oc _) (inc_3 (by omega)))
                  (cc rfl (p_move g0 (od rfl id)) cn)) fun a36 w36 b36 s36 => ?_
              have z36 := z32.trans (b36.mono z32.size)
              exact ⟨hlt1, s36.to _ ⟨rfl, rfl, rfl, rfl, rfl, True.intro⟩, z36, True.intro⟩
        · -- false
          obtain rfl : i = o.mps.length := by have := of_decide_eq_false h62; (try dsimp only at this); omega
          have s18 := s18.more 0 (y := .fr B (obH bs o ++ Pk.putL 1 (o.mps.length : Int) ++ o.mps.flatMap mapB)) (by have h := s18.get 0 rfl; rw [List.take_length] at h; exact h)
          refine wp_exit ?_
          refine wp_seq ?_
          refine flowT (s18.keep (sc 0 rfl (sc 4 rfl (sc 59 rfl (sc 60 rfl (sc 61 rfl sn)))))) (by kernel_rfl) (cc rfl (p_move g0 (od rfl id))
              (cc rfl (p_assign g0 (od rfl id)) cn)) fun a37 w37 b37 s37 => ?_
          have z37 := z18.trans (b37.mono z18.size)
          have s37 := s37.more 4 (y := .fr B (bs ++ obB o)) (by rw [← enc4 p4]; exact s37.get 4 rfl)
          exact wp_ret (ret_tmp (fn := Try.f116) s37 4 rfl rfl (fun _ h => h) z37)
      · -- false
        have p4 : ¬ o.k = 4 := by simpa using h50
        refine wp_seq ?_
        refine wp_seq ?_
        refine flowC mixed (s14.keep (sc 0 rfl (sc 3 rfl (sc 4 rfl (sc 23 rfl sn))))) (by kernel_rfl) (by kernel_rfl) (cc rfl (p_bin g0 (od rfl id) (oc _) b_eql_3)
            (cc rfl (p_assign g0 (od rfl id)) cn)) fun a38 w38 b38 s38 => ?_
        have z38 := z14.trans (b38.mono z14.size)
        refine s38.cond 88 rfl (fun h88 => ?_) (fun h88 => ?_)
        · -- true
          have p3 : o.k = 3 := by simpa using h88
          obtain ⟨q1, q2, q3⟩ := hO.b3 (.inl p3)
          have hcl := q1.len
          have es := u64_id q2
          have ec := u64_id q3
          refine wp_skip ?_
          refine s38.cond 88 rfl (fun _ => ?_) (fun h => absurd h (by rw [h88]; simp))
          refine flowR 12 mixed (s38.keep (sc 0 rfl (sc 3 rfl (sc 4 rfl sn)))) (by kernel_rfl) (by kernel_rfl) (cc rfl (p_move g0 (od rfl id))
              (cc rfl (p_fieldAddr pt67_3 fa_67_3 g0 (od rfl id))
              (cc rfl (p_load Try.underlying39 rfl sz_39 g0 (od rfl id))
              (cc rfl (p_call 37 g0 (ox (od rfl id) (ox (od rfl id) ox0)) (fun _ _ => by kernel_rfl) (f37f (by first | omega | (simp; omega) | simp) (by decide)))
              (cc rfl (p_fieldAddr pt67_8 fa_67_8 g0 (od rfl id))
              (cc rfl (p_loadI ld_3 g0 (od rfl id))
              (cc rfl (p_conv g0 (od rfl id) (cv_id es))
              (cc rfl (p_call 29 g0 (ox (od rfl id) (ox (oc _) (ox (od rfl id) ox0))) (fun _ _ => by kernel_rfl) (f29f (n := 1) (by first | omega | (simp; omega) | simp) (by decide)))
              (cc rfl (p_fieldAddr pt67_9 fa_67_9 g0 (od rfl id))
              (cc rfl (p_loadI ld_3 g0 (od rfl id))
              (cc rfl (p_conv g0 (od rfl id) (cv_id ec))
              (cc rfl (p_call 29 g0 (ox (od rfl id) (ox (oc _) (ox (od rfl id) ox0))) (fun _ _ => by kernel_rfl) (f29f (n := 4) (by first | omega | (simp; omega) | simp) (by decide))) cn)))))))))))) fun a39 w39 b39 s39 => ?_
          have z39 := z38.trans (b39.mono z38.size)
          refine chainT (t := []) (cc rfl (p_assign g0 (od rfl id)) cn) (by kernel_rfl) s39 fun a40 w40 b40 s40 => wpList_done ?_
          have z40 := z39.trans (b40.mono z39.size)
          refine wp_seq ?_
          refine flowT (s40.keep (sc 0 rfl (sc 4 rfl sn))) (by kernel_rfl) (cc rfl (p_move g0 (od rfl id))
              (cc rfl (p_assign g0 (od rfl id)) cn)) fun a41 w41 b41 s41 => ?_
          have z41 := z40.trans (b41.mono z40.size)
          have s41 := s41.more 4 (y := .fr B (bs ++ obB o)) (by rw [← enc3 (.inl p3)]; exact s41.get 4 rfl)
          exact wp_ret (ret_tmp (fn := Try.f116) s41 4 rfl rfl (fun _ h => h) z41)
        · -- false
          have p3 : ¬ o.k = 3 := by simpa using h88
          refine flowT (s38.keep (sc 0 rfl (sc 3 rfl (sc 4 rfl (sc 23 rfl (sc 88 rfl sn)))))) (by kernel_rfl) (cc rfl (p_bin g0 (od rfl id) (oc _) b_eql_3)
              (cc rfl (p_assign g0 (od rfl id)) cn)) fun a42 w42 b42 s42 => ?_
          have z42 := z38.trans (b42.mono z38.size)
          refine s42.cond 88 rfl (fun h90 => ?_) (fun h90 => ?_)
          · -- true
            have p5 : o.k = 5 := by simpa using h90
            obtain ⟨q1, q2, q3⟩ := hO.b3 (.inr p5)
            have hcl := q1.len
            have es := u64_id q2
            have ec := u64_id q3
            refine flowR 12 mixed (s42.keep (sc 0 rfl (sc 3 rfl (sc 4 rfl sn)))) (by kernel_rfl) (by kernel_rfl) (cc rfl (p_move g0 (od rfl id))
                (cc rfl (p_fieldAddr pt67_3 fa_67_3 g0 (od rfl id))
                (cc rfl (p_load Try.underlying39 rfl sz_39 g0 (od rfl id))
                (cc rfl (p_call 37 g0 (ox (od rfl id) (ox (od rfl id) ox0)) (fun _ _ => by kernel_rfl) (f37f (by first | omega | (simp; omega) | simp) (by decide)))
                (cc rfl (p_fieldAddr pt67_8 fa_67_8 g0 (od rfl id))
                (cc rfl (p_loadI ld_3 g0 (od rfl id))
                (cc rfl (p_conv g0 (od rfl id) (cv_id es))
                (cc rfl (p_call 29 g0 (ox (od rfl id) (ox (oc _) (ox (od rfl id) ox0))) (fun _ _ => by kernel_rfl) (f29f (n := 1) (by first | omega | (simp; omega) | simp) (by decide)))
                (cc rfl (p_fieldAddr pt67_9 fa_67_9 g0 (od rfl id))
                (cc rfl (p_loadI ld_3 g0 (od rfl id))
                (cc rfl (p_conv g0 (od rfl id) (cv_id ec))
                (cc rfl (p_call 29 g0 (ox (od rfl id) (ox (oc _) (ox (od rfl id) ox0))) (fun _ _ => by kernel_rfl) (f29f (n := 4) (by first | omega | (simp; omega) | simp) (by decide))) cn)))))))))))) fun a43 w43 b43 s43 => ?_
            have z43 := z42.trans (b43.mono z42.size)
            refine chainT (t := []) (cc rfl (p_assign g0 (od rfl id)) cn) (by kernel_rfl) s43 fun a44 w44 b44 s44 => wpList_done ?_
            have z44 := z43.trans (b44.mono z43.size)
            refine wp_seq ?_
            refine flowT (s44.keep (sc 0 rfl (sc 4 rfl sn))) (by kernel_rfl) (cc rfl (p_move g0 (od rfl id))
                (cc rfl (p_assign g0 (od rfl id)) cn)) fun a45 w45 b45 s45 => ?_
            have z45 := z44.trans (b45.mono z44.size)
            have s45 := s45.more 4 (y := .fr B (bs ++ obB o)) (by rw [← enc3 (.inr p5)]; exact s45.get 4 rfl)
            exact wp_ret (ret_tmp (fn := Try.f116) s45 4 rfl rfl (fun _ h => h) z45)
          · -- false
            have p5 : ¬ o.k = 5 := by simpa using h90
            refine wp_skip ?_
            refine wp_seq ?_
            refine flowT (s42.keep (sc 0 rfl (sc 4 rfl sn))) (by kernel_rfl) (cc rfl (p_move g0 (od rfl id))
                (cc rfl (p_assign g0 (od rfl id)) cn)) fun a46 w46 b46 s46 => ?_
            have z46 := z42.trans (b46.mono z42.size)
            have s46 := s46.more 4 (y := .fr B (bs ++ obB o)) (by rw [← enc6 p1 p2 p4 (fun h => h.elim p3 p5)]; exact s46.get 4 rfl)
            exact wp_ret (ret_tmp (fn := Try.f116) s46 4 rfl rfl (fun _ h => h) z46)
set_option maxRecDepth 100000 in
theorem f95f {U : Prop} {B : Nat} {c : Cf} (hT : TellC c) (hl : (cfB c).length ≤ 100000) : Fn U Try.prog 95 [.both (.past B) (.st cfL c)] (.fr B (cfB c)) := fn1 fun w F v0 h0 hF => by
  obtain ⟨hB, h0⟩ := h0
  have eco := u64_id hT.co
  have efr := u64_id hT.fr
  have enm := u64_id hT.nm
  have esn := u64_id hT.sn
  have eon := u64_id hT.on
  have hs0 := hT.sn.2
  have ho0 := hT.on.2
  go_enter Try.func95, Try.ntmps95
  refine wp_seq ?_
  refine flowC mixed (st0 (U := U) (N := 62) (e := [(0, true, .st cfL c)]) (F := F) rfl rfl hF ⟨⟨rfl, h0⟩, True.intro⟩) (by kernel_rfl) (by kernel_rfl) (cc rfl (p_box bx_59 g0 (od rfl id))
      (cc rfl (p_assign g0 (oc _)) cn)) fun a1 w1 b1 s1 => ?_
  have z1 := b1
  refine wp_seq ?_
  refine wp_region_lit ?_
  refine chainK 3 (cc rfl (p_fieldAddr pt59_0 fa_59_0 g0 (od rfl id))
      (cc rfl (p_loadI ld_3 g0 (od rfl id))
      (cc rfl (p_conv g0 (od rfl id) (cv_id eco)) cn))) (by kernel_rfl) (s1.keep (sc 1 rfl (sc 2 rfl sn))) fun a2 w2 b2 s2 => ?_
  have z2 := z1.trans (b2.mono z1.size)
  show wpList _ _ _ (_ :: _) _ _
  refine call_y (y := .fr B (Pk.putL 1 c.co)) [.const (.slice none 0 0), .const (.int .i64 1), .tmp 10] s2 (by simp [Region.wanted]) (fun _ _ => by kernel_rfl) rfl (by decide) (put_nil (n := 1) (Nat.le_trans hB z2.size) (s2.get 10 rfl) (by decide) s2.fok) fun a3 w3 b3 s3 => ?_
  have z3 := z2.trans (b3.mono z2.size)
  refine chainT (t := []) (cc rfl (p_assign g0 (od rfl id)) cn) (by kernel_rfl) s3 fun a4 w4 b4 s4 => wpList_done ?_
  have z4 := z3.trans (b4.mono z3.size)
  refine wp_seq ?_
  refine flowT (s4.keep (sc 1 rfl (sc 2 rfl (sc 3 rfl sn)))) (by kernel_rfl) (cc rfl (p_move g0 (od rfl id))
      (cc rfl (p_fieldAddr pt59_1 fa_59_1 g0 (od rfl id))
      (cc rfl (p_loadI ld_3 g0 (od rfl id))
      (cc rfl (p_conv g0 (od rfl id) (cv_id efr))
      (cc rfl (p_call 29 g0 (ox (od rfl id) (ox (oc _) (ox (od rfl id) ox0))) (fun _ _ => by kernel_rfl) (f29f (n := 2) (by first | omega | (simp; omega) | simp) (by decide)))
      (cc rfl (p_assign g0 (od rfl id)) cn)))))) fun a5 w5 b5 s5 => ?_
  have z5 := z4.trans (b5.mono z4.size)
  refine wp_seq ?_
  refine flowT (s5.keep (sc 1 rfl (sc 2 rfl (sc 3 rfl sn)))) (by kernel_rfl) (cc rfl (p_move g0 (od rfl id))
      (cc rfl (p_fieldAddr pt59_2 fa_59_2 g0 (od rfl id))
      (cc rfl (p_loadI ld_3 g0 (od rfl id))
      (cc rfl (p_conv g0 (od rfl id) (cv_id enm))
      (cc rfl (p_call 29 g0 (ox (od rfl id) (ox (oc _) (ox (od rfl id) ox0))) (fun _ _ => by kernel_rfl) (f29f (n := 4) (by first | omega | (simp; omega) | simp) (by decide)))
      (cc rfl (p_assign g0 (od rfl id)) cn)))))) fun a6 w6 b6 s6 => ?_
  have z6 := z5.trans (b6.mono z5.size)
  refine wp_seq ?_
  refine flowT (s6.keep (sc 1 rfl (sc 2 rfl (sc 3 rfl sn)))) (by kernel_rfl) (cc rfl (p_move g0 (od rfl id))
      (cc rfl (p_fieldAddr pt59_3 fa_59_3 g0 (od rfl id))
      (cc rfl (p_load1 rfl ld_53 g0 (od rfl id))
      (cc rfl (p_len ln_53 g0 (od rfl id))
      (cc rfl (p_conv g0 (od rfl id) (cv_id esn))
      (cc rfl (p_call 29 g0 (ox (od rfl id) (ox (oc _) (ox (od rfl id) ox0))) (fun _ _ => by kernel_rfl) (f29f (n := 1) (by first | omega | (simp; omega) | simp) (by decide)))
      (cc rfl (p_assign g0 (od rfl id)) cn))))))) fun a7 w7 b7 s7 => ?_
  have z7 := z6.trans (b7.mono z6.size)
  have s7 := s7.more 3 (y := .fr B (cfH c)) (s7.get 3 rfl)
  refine wp_seq ?_
  refine wp_seq ?_
  refine flowC mixed (s7.keep (sc 1 rfl (sc 2 rfl (sc 3 rfl sn)))) (by kernel_rfl) (by kernel_rfl) (cc rfl (p_fieldAddr pt59_3 fa_59_3 g0 (od rfl id))
      (cc rfl (p_load1 rfl ld_53 g0 (od rfl id))
      (cc rfl (p_len ln_53 g0 (od rfl id))
      (cc rfl (p_move g0 (oc _)) cn)))) fun a8 w8 b8 s8 => ?_
  have z8 := z7.trans (b8.mono z7.size)
  have s8 := s8.more 3 (y := .fr B (cfH c ++ (c.sl.take 0).flatMap slB)) (by rw [List.take_zero, List.flatMap_nil, List.append_nil]; exact s8.get 3 rfl)
  refine wp_block ?_
  refine wp_range c.sl.length 31 (fun i => [(3, true, .fr B (cfH c ++ (c.sl.take i).flatMap slB))]) (fun _ _ => True) (s8.keep (sc 31 rfl (sc 3 rfl (sc 1 rfl (sc 2 rfl (sc 29 rfl (sc 30 rfl sn))))))) z8 True.intro fun i a9 w9 hi1 s9 z9 x9 => ?_
  refine wp_seq ?_
  refine flowC mixed (s9.keep (sc 1 rfl (sc 2 rfl (sc 3 rfl (sc 29 rfl (sc 30 rfl (sc 31 rfl sn))))))) (by kernel_rfl) (by kernel_rfl) (cc rfl (p_bin g0 (od rfl id) (od rfl id) b_lss_3) cn) fun a10 w10 b10 s10 => ?_
  have z10 := z9.trans (b10.mono z9.size)
  refine wp_seq ?_
  refine s10.cond 32 rfl (fun h32 => ?_) (fun h32 => ?_)
  · -- true
    have hlt1 : i < c.sl.length := by simpa using h32
    obtain ⟨sx, es⟩ : ∃ x, c.sl[i]? = some x := ⟨_, List.getElem?_eq_getElem hlt1⟩
    have es2 := u64_id (hT.sl sx (List.mem_of_getElem? es)).2
    refine wp_skip ?_
    refine wp_seq ?_
    refine wp_block ?_
    refine wp_seq ?_
    refine flowQ 3 mixed (s10.keep (sc 1 rfl (sc 2 rfl (sc 3 rfl (sc 29 rfl (sc 30 rfl (sc 31 rfl (sc 32 rfl sn)))))))) (by kernel_rfl) (by kernel_rfl) (cc rfl (p_index ix_53 es g0 (od rfl id) (od rfl id))
        (cc rfl (p_load u_64 ur_64 sz_64 g0 (od rfl id))
        (ca rfl (m_alloc al_64 nu64) cn))) (by kernel_rfl) (ss rfl rfl rfl rfl puts_st sz_64 rfl rfl ss0) fun a11 w11 b11 s11 => ?_
    have z11 := z10.trans (b11.mono z10.size)
    refine flowR 8 mixed (s11.keep (sc 1 rfl (sc 2 rfl (sc 3 rfl (sc 5 rfl (sc 29 rfl (sc 30 rfl (sc 31 rfl (sc 32 rfl (sc 33 rfl (sc 34 rfl sn))))))))))) (by kernel_rfl) (by kernel_rfl) (cc rfl (p_move g0 (od rfl id))
        (cc rfl (p_fieldAddr pt64_0 fa_64_0 g0 (od rfl id))
        (cc rfl (p_loadI ld_23 g0 (od rfl id))
        (cc rfl (p_call 29 g0 (ox (od rfl id) (ox (oc _) (ox (od rfl id) ox0))) (fun _ _ => by kernel_rfl) (f29f (n := 1) (by simp only [List.length_append, cfH_length, slsB_length, List.length_take]; omega) (by decide)))
        (cc rfl (p_fieldAddr pt64_1 fa_64_1 g0 (od rfl id))
        (cc rfl (p_loadI ld_3 g0 (od rfl id))
        (cc rfl (p_conv g0 (od rfl id) (cv_id es2))
        (cc rfl (p_call 29 g0 (ox (od rfl id) (ox (oc _) (ox (od rfl id) ox0))) (fun _ _ => by kernel_rfl) (f29f (n := 1) (by simp only [List.length_append, Pk.putL_length, cfH_length, slsB_length, List.length_take]; omega) (by decide))) cn)))))))) fun a12 w12 b12 s12 => ?_
    have z12 := z11.trans (b12.mono z11.size)
    refine chainT (t := []) (cc rfl (p_assign g0 (od rfl id)) cn) (by kernel_rfl) s12 fun a13 w13 b13 s13 => wpList_done ?_
    have z13 := z12.trans (b13.mono z12.size)
    have s13 := s13.more 3 (y := .fr B (cfH c ++ (c.sl.take (i + 1)).flatMap slB)) (by rw [flat_succ es, ← List.append_assoc]; unfold slB; rw [← List.append_assoc]; exact s13.get 3 rfl)
    refine flowT (s13.keep (sc 1 rfl (sc 2 rfl (sc 3 rfl (sc 5 rfl (sc 29 rfl (sc 30 rfl (sc 31 rfl (sc 32 rfl (sc 33 rfl (sc 34 rfl (sc 35 rfl (sc 36 rfl (sc 37 rfl (sc 38 rfl (sc 39 rfl (sc 40 rfl (sc 41 rfl (sc 42 rfl sn))))))))))))))))))) (by kernel_rfl) (cc rfl (p_bin g0 (od rfl id) (oc _) (inc_3 (by omega)))
        (cc rfl (p_move g0 (od rfl id)) cn)) fun a14 w14 b14 s14 => ?_
    have z14 := z13.trans (b14.mono z13.size)
    exact ⟨hlt1, s14.to _ ⟨rfl, rfl, rfl, rfl, rfl, rfl, True.intro⟩, z14, True.intro⟩
  · -- false
    obtain rfl : i = c.sl.length := by have := of_decide_eq_false h32; (try dsimp only at this); omega
    have s10 := s10.more 3 (y := .fr B (cfH c ++ c.sl.flatMap slB)) (by have h := s10.get 3 rfl; rw [List.take_length] at h; exact h)
    refine wp_exit ?_
    refine wp_seq ?_
    refine flowT (s10.keep (sc 1 rfl (sc 2 rfl (sc 3 rfl (sc 29 rfl (sc 30 rfl (sc 31 rfl sn))))))) (by kernel_rfl) (cc rfl (p_move g0 (od rfl id))
        (cc rfl (p_fieldAddr pt59_4 fa_59_4 g0 (od rfl id))
        (cc rfl (p_load1 rfl ld_57 g0 (od rfl id))
        (cc rfl (p_len ln_57 g0 (od rfl id))
        (cc rfl (p_conv g0 (od rfl id) (cv_id eon))
        (cc rfl (p_call 29 g0 (ox (od rfl id) (ox (oc _) (ox (od rfl id) ox0))) (fun _ _ => by kernel_rfl) (f29f (n := 1) (by simp only [List.length_append, cfH_length, slsB_length]; omega) (by decide)))
        (cc rfl (p_assign g0 (od rfl id)) cn))))))) fun a15 w15 b15 s15 => ?_
    have z15 := z10.trans (b15.mono z10.size)
    have s15 := s15.more 3 (y := .fr B (cfH2 c)) (s15.get 3 rfl)
    refine wp_seq ?_
    refine wp_seq ?_
    refine flowC mixed (s15.keep (sc 1 rfl (sc 2 rfl (sc 3 rfl (sc 29 rfl (sc 30 rfl (sc 31 rfl sn))))))) (by kernel_rfl) (by kernel_rfl) (cc rfl (p_fieldAddr pt59_4 fa_59_4 g0 (od rfl id))
        (cc rfl (p_load1 rfl ld_57 g0 (od rfl id))
        (cc rfl (p_len ln_57 g0 (od rfl id))
        (cc rfl (p_move g0 (oc _)) cn)))) fun a16 w16 b16 s16 => ?_
    have z16 := z15.trans (b16.mono z15.size)
    have s16 := s16.more 3 (y := .fr B (cfH2 c ++ (c.obs.take 0).flatMap obB)) (by rw [List.take_zero, List.flatMap_nil, List.append_nil]; exact s16.get 3 rfl)
    refine wp_block ?_
    refine wp_range c.obs.length 53 (fun i => [(3, true, .fr B (cfH2 c ++ (c.obs.take i).flatMap obB))]) (fun _ _ => True) (s16.keep (sc 53 rfl (sc 3 rfl (sc 1 rfl (sc 2 rfl (sc 29 rfl (sc 30 rfl (sc 31 rfl (sc 51 rfl (sc 52 rfl sn)))))))))) z16 True.intro fun i a17 w17 hi2 s17 z17 x17 => ?_
    refine wp_seq ?_
    refine flowC mixed (s17.keep (sc 1 rfl (sc 2 rfl (sc 3 rfl (sc 29 rfl (sc 30 rfl (sc 31 rfl (sc 51 rfl (sc 52 rfl (sc 53 rfl sn)))))))))) (by kernel_rfl) (by kernel_rfl) (cc rfl (p_bin g0 (od rfl id) (od rfl id) b_lss_3) cn) fun a18 w18 b18 s18 => ?_
    have z18 := z17.trans (b18.mono z17.size)
    refine wp_seq ?_
    refine s18.cond 54 rfl (fun h54 => ?_) (fun h54 => ?_)
    · -- true
      have hlt2 : i < c.obs.length := by simpa using h54
      obtain ⟨o, eo⟩ : ∃ x, c.obs[i]? = some x := ⟨_, List.getElem?_eq_getElem hlt2⟩
      have hTo := hT.obs o (List.mem_of_getElem? eo)
      have hlo : ((cfH2 c ++ (c.obs.take i).flatMap obB) ++ obB o).length ≤ 100000 := by rw [List.append_assoc, ← flat_succ eo]; exact Nat.le_trans (take_pre c (i + 1)) hl
      refine wp_skip ?_
      refine wp_seq ?_
      refine wp_block ?_
      refine wp_seq ?_
      refine flowQ 3 mixed (s18.keep (sc 1 rfl (sc 2 rfl (sc 3 rfl (sc 29 rfl (sc 30 rfl (sc 31 rfl (sc 51 rfl (sc 52 rfl (sc 53 rfl (sc 54 rfl sn))))))))))) (by kernel_rfl) (by kernel_rfl) (cc rfl (p_index ix_57 eo g0 (od rfl id) (od rfl id))
          (cc rfl (p_load u_67 ur_67 sz_67 g0 (od rfl id))
          (ca rfl (m_alloc al_67 nu67) cn))) (by kernel_rfl) (ss rfl rfl rfl rfl puts_st sz_67 rfl rfl ss0) fun a19 w19 b19 s19 => ?_
      have z19 := z18.trans (b19.mono z18.size)
      refine flowT (s19.keep (sc 1 rfl (sc 2 rfl (sc 3 rfl (sc 7 rfl (sc 29 rfl (sc 30 rfl (sc 31 rfl (sc 51 rfl (sc 52 rfl (sc 53 rfl (sc 54 rfl (sc 55 rfl (sc 56 rfl sn)))))))))))))) (by kernel_rfl) (cc rfl (p_move g0 (od rfl id))
          (cc rfl (p_load u_67 ur_67 sz_67 g0 (od rfl id))
          (cc rfl (p_call 116 g0 (ox (od rfl id) (ox (od rfl id) ox0)) (fun _ _ => by kernel_rfl) (f116f hTo hlo))
          (cc rfl (p_assign g0 (od rfl id)) cn)))) fun a20 w20 b20 s20 => ?_
      have z20 := z19.trans (b20.mono z19.size)
      have s20 := s20.more 3 (y := .fr B (cfH2 c ++ (c.obs.take (i + 1)).flatMap obB)) (by rw [flat_succ eo, ← List.append_assoc]; exact s20.get 3 rfl)
      refine flowT (s20.keep (sc 1 rfl (sc 2 rfl (sc 3 rfl (sc 7 rfl (sc 29 rfl (sc 30 rfl (sc 31 rfl (sc 51 rfl (sc 52 rfl (sc 53 rfl (sc 54 rfl (sc 55 rfl (sc 56 rfl (sc 57 rfl (sc 58 rfl (sc 59 rfl sn))))))))))))))))) (by kernel_rfl) (cc rfl (p_bin g0 (od rfl id) (oc _) (inc_3 (by omega)))
          (cc rfl (p_move g0 (od rfl id)) cn)) fun a21 w21 b21 s21 => ?_
      have z21 := z20.trans (b21.mono z20.size)
      exact ⟨hlt2, s21.to _ ⟨rfl, rfl, rfl, rfl, rfl, rfl, rfl, rfl, rfl, True.intro⟩, z21, True.intro⟩
    · -- false
      obtain rfl : i = c.obs.length := by have := of_decide_eq_false h54; (try dsimp only at this); omega
      have s18 := s18.more 3 (y := .fr B (cfB c)) (by have h := s18.get 3 rfl; rw [List.take_length, ← cf_split] at h; exact h)
      refine wp_exit ?_
      refine wp_seq ?_
      refine flowT (s18.keep (sc 1 rfl (sc 2 rfl (sc 3 rfl (sc 29 rfl (sc 30 rfl (sc 31 rfl (sc 51 rfl (sc 52 rfl (sc 53 rfl sn)))))))))) (by kernel_rfl) (cc rfl (p_move g0 (od rfl id))
          (cc rfl (p_assign g0 (od rfl id)) cn)) fun a22 w22 b22 s22 => ?_
      have z22 := z18.trans (b22.mono z18.size)
      exact wp_ret (ret_tmp (fn := Try.f95) s22 2 rfl rfl (fun _ h => h) z22)
end Go.Proofs.Ytihddficgpjgpaa.Y
