/- Ypack: labels behind other bytes -/
import Derived.Test.YtihddficgpjgpaaZYpk
import Derived.Test.YtihddficgpjgpaaZYright
import Derived.Test.YtihddficgpjgpaaZMPk
import Derived.Test.YtihddficgpjgpaaZRow
namespace Go.Proofs.Ytihddficgpjgpaa.Y
open Go.RowKit Go.ChangeShapes Go.WideShapes Go.ChangeAt
section
variable {d : Nat} {t : TypeId} {p : String} {af : Array Edge} {g : Option (Nat × Bool)} {x x2 : Operand}
theorem ld_5 : LoadRun Try.prog ⟨some d, .load 5 x, t, p, af, g⟩ x := fun ev w b off v h1 h2 => by go_simp
theorem ix_22 : IndexRun Try.prog ⟨some d, .indexAddr 22 x x2, t, p, af, g⟩ x x2 1 := fun ev w b off len cap i h1 h2 h3 => by
  have hd : decide ((0 : Int) ≤ i) = true := by simp
  have hd2 : decide ((i : Int) < len) = true := by simp; omega
  go_simp
theorem ln_22 : LenRun Try.prog ⟨some d, .call { callee := .builtin .len, args := #[x], argTypes := #[22] }, t, p, af, g⟩ x := fun ev w A len cap h1 => by go_simp
theorem cv_3_5 {a : Int} : Run1 Try.prog ⟨some d, .convert 3 5 x, t, p, af, g⟩ x (.int .i64 a) (.int .u8 (IntKind.u8.wrap a)) := fun ev w h1 => by go_simp
theorem cv_70_23 {a : Int} : Run1 Try.prog ⟨some d, .convert 70 23 x, t, p, af, g⟩ x (.int .u32 a) (.int .u64 (IntKind.u64.wrap a)) := fun ev w h1 => by go_simp
theorem b_eql_5 {a b : Int} : Run2 Try.prog ⟨some d, .binOp .eql 5 x x2 5, t, p, af, g⟩ x x2 (.int .u8 a) (.int .u8 b) (.bool (a == b)) := fun ev w h1 h2 => by go_simp
theorem b_eql_23 {a b : Int} : Run2 Try.prog ⟨some d, .binOp .eql 23 x x2 23, t, p, af, g⟩ x x2 (.int .u64 a) (.int .u64 b) (.bool (a == b)) := fun ev w h1 h2 => by go_simp
theorem b_neq_23 {a b : Int} : Run2 Try.prog ⟨some d, .binOp .neq 23 x x2 23, t, p, af, g⟩ x x2 (.int .u64 a) (.int .u64 b) (.bool (a != b)) := fun ev w h1 h2 => by go_simp
theorem bs_22_1 {z : Int} : ∀ (ev : Operand → Value) (w : World), ev x = .int .u8 z → (execOp ev ⟨some d, .buildSlice 22 1 #[(0, x)], t, p, af, g⟩).run Try.prog w = .ok (.value (.slice (some ⟨w.heap.size, 0, none⟩) 1 1)) (w.alloc (.cells #[.int .u8 z] 5)) := fun ev w h1 => by go_simp
theorem bs_22_2 {z z2 : Int} : ∀ (ev : Operand → Value) (w : World), ev x = .int .u8 z → ev x2 = .int .u8 z2 → (execOp ev ⟨some d, .buildSlice 22 2 #[(0, x), (1, x2)], t, p, af, g⟩).run Try.prog w = .ok (.value (.slice (some ⟨w.heap.size, 0, none⟩) 2 2)) (w.alloc (.cells #[.int .u8 z, .int .u8 z2] 5)) := fun ev w h1 h2 => by go_simp
end
theorem Try.info5 : (Try.prog.info? 5).map (fun i => (i.zero, i.size, i.bytes)) = some (some (.int .u8 0), 1, 1) := by kernel_rfl
abbrev byL : Lay Int := Lay.int .u8
abbrev byE (x : Int) : List Value := [.int .u8 x]
theorem byF : Flat byL byE := Flat.int .u8
abbrev Sym.by (l : List Int) : Sym := .one (Lay.sl byL) l
theorem flat_u8s : ∀ l : List Int, l.flatMap byE = Pk.u8s l
  | [] => rfl
  | x :: t => by rw [List.flatMap_cons, flat_u8s t]; rfl
theorem oc_nil {e : Env} {c : Bool} : OpdE e c (.const (.slice none 0 0)) (.by []) := fun _ _ _ _ _ => ⟨none, 0, rfl, fun h => absurd h (by simp), Nat.le_refl _⟩
theorem by_in {l : List Int} {w : World} {F : Cell → Prop} {v : Value} (h : (Sym.by l).on w F v) : ∃ A c, v = .slice A l.length c ∧ IntsAt .u8 w w.heap.size A l ∧ l.length ≤ c := by
  obtain ⟨A, c, e, h1, h2⟩ := h
  simp only [List.cons.injEq, and_true] at e
  refine ⟨A, c, e, fun hl => ?_, h2⟩
  obtain ⟨b, off, rfl, hb, hc⟩ := h1 hl
  refine ⟨b, off, rfl, hb, fun i hi => ?_⟩
  obtain ⟨cs, h3, h4⟩ := hc i hi
  obtain rfl : cs = [.int .u8 l[i]] := h3
  have := (h4 0 (by simp)).2
  simpa [Lay.int] using this
section
variable {U : Prop}
/-- A number behind others. -/
theorem put_calls {l : List Int} {n : Nat} {x : Int} {w : World} {F : Cell → Prop} {v : Value} (h : (Sym.by l).on w F v) (hl : l.length ≤ 1000000) (hn : n ≤ 8) : Calls Try.prog 29 #[v, .int .i64 n, .int .u64 x] w fun e w' => ∃ v, e = .returned v ∧ w'.ownsRow w.heap.size 5 1 v (l ++ Pk.putL n x).length ((l ++ Pk.putL n x).flatMap byE) ∧ Below w.heap.size w w' := by
  obtain ⟨A, c, rfl, h1, _⟩ := by_in h
  refine (Pk.put_any A c l n x _ w h1 hl hn).mono ?_
  rintro _ w' ⟨v, rfl, h2, h3⟩
  exact ⟨v, rfl, by rw [flat_u8s, List.length_append, Pk.putL_length]; exact h2, h3⟩
theorem own_by {l : List Int} {w w' : World} {F : Cell → Prop} {v : Value} (hF : FOK U F w) (h : w'.ownsRow w.heap.size 5 1 v l.length (l.flatMap byE)) : (Sym.by l).on w' F v ∧ ∀ g o, v.ownBlock = some g → ¬ F (g, o) := by
  have hfr : ∀ g o, v.ownBlock = some g → ¬ F (g, o) := fun g o hg hf => by
    have := own_base h hg
    have := hF.lt (g, o) hf
    simp only at this
    omega
  exact ⟨sl_of_own byF h fun g o hg _ => hfr g o hg, hfr⟩
theorem f29own {B : Nat} {l : List Int} {n : Nat} {x : Int} (hl : l.length ≤ 1000000) (hn : n ≤ 8) : Fn U Try.prog 29 [.both (.past B) (.by l), .int .i64 n, .int .u64 x] (.both (.own B 5 byL.n (l ++ Pk.putL n x).length ((l ++ Pk.putL n x).flatMap byE)) (.by (l ++ Pk.putL n x))) := fn3 fun w F v1 v2 v3 h1 h2 h3 hF => by
  obtain rfl : v2 = .int .i64 n := h2
  obtain rfl : v3 = .int .u64 x := h3
  refine (put_calls h1.2 hl hn).mono ?_
  rintro _ w' ⟨v, rfl, h4, h5⟩
  obtain ⟨h6, h7⟩ := own_by hF h4
  exact ⟨v, rfl, ⟨⟨own_mono h4 h1.1, h7⟩, h6⟩, h5⟩
theorem f29 {l : List Int} {n : Nat} {x : Int} (hl : l.length ≤ 1000000) (hn : n ≤ 8) : Fn U Try.prog 29 [.by l, .int .i64 n, .int .u64 x] (.by (l ++ Pk.putL n x)) := fn3 fun w F v1 v2 v3 h1 h2 h3 hF => by
  obtain rfl : v2 = .int .i64 n := h2
  obtain rfl : v3 = .int .u64 x := h3
  refine (put_calls h1 hl hn).mono ?_
  rintro _ w' ⟨v, rfl, h4, h5⟩
  exact ⟨v, rfl, (own_by hF h4).1, h5⟩
end
/-- A label's bytes. -/
def pairB (p : Int × Int) : List Int := Pk.putL 4 (IntKind.u64.wrap p.1) ++ [IntKind.u8.wrap p.2]
def labB (a : Lab) : List Int := [IntKind.u8.wrap a.d, IntKind.u8.wrap (a.ps.length : Int)] ++ a.ps.flatMap pairB
theorem pairB_len (p : Int × Int) : (pairB p).length = 5 := by simp [pairB, Pk.putL_length]
theorem pairsB_len : ∀ ps : List (Int × Int), (ps.flatMap pairB).length = 5 * ps.length
  | [] => rfl
  | p :: t => by rw [List.flatMap_cons, List.length_append, pairB_len, pairsB_len t, List.length_cons]; omega
theorem labB_len (a : Lab) : (labB a).length = 2 + 5 * a.ps.length := by unfold labB; rw [List.length_append, pairsB_len]; rfl
theorem u8_byt (x : Int) : 0 ≤ IntKind.u8.wrap x ∧ IntKind.u8.wrap x < 256 := by rw [IntKind.wrap_u8]; omega
theorem byt_app {a b : List Int} (ha : Pk.Byt a) (hb : Pk.Byt b) : Pk.Byt (a ++ b) := fun x hx => by
  rcases List.mem_append.1 hx with hx | hx
  · exact ha x hx
  · exact hb x hx
theorem byt_pair (p : Int × Int) : Pk.Byt (pairB p) := byt_app (Pk.putL_byt _ _) fun x hx => by rw [List.mem_singleton.1 hx]; exact u8_byt _
theorem byt_lab (a : Lab) : Pk.Byt (labB a) := byt_app (fun x hx => by
  rcases List.mem_cons.1 hx with rfl | hx
  · exact u8_byt _
  · rw [List.mem_singleton.1 hx]; exact u8_byt _) fun x hx => by
  obtain ⟨p, _, hp⟩ := List.mem_flatMap.1 hx
  exact byt_pair p x hp
def labTo (bs : List Int) (a : Lab) (i : Nat) : List Int := bs ++ [IntKind.u8.wrap a.d, IntKind.u8.wrap (a.ps.length : Int)] ++ (a.ps.take i).flatMap pairB
theorem labTo_0 (bs : List Int) (a : Lab) : labTo bs a 0 = bs ++ [IntKind.u8.wrap a.d, IntKind.u8.wrap (a.ps.length : Int)] := by simp [labTo]
theorem labTo_end (bs : List Int) (a : Lab) : labTo bs a a.ps.length = bs ++ labB a := by unfold labTo labB; rw [List.take_length, List.append_assoc]
theorem labTo_len {bs : List Int} {a : Lab} {i : Nat} (h : i ≤ a.ps.length) : (labTo bs a i).length = bs.length + 2 + 5 * i := by
  unfold labTo
  rw [List.length_append, List.length_append, pairsB_len, List.length_take]
  simp; omega
theorem labTo_step {bs : List Int} {a : Lab} {i : Nat} {p : Int × Int} (h : a.ps[i]? = some p) : labTo bs a (i + 1) = labTo bs a i ++ Pk.putL 4 (IntKind.u64.wrap p.1) ++ [IntKind.u8.wrap p.2] := by
  obtain ⟨hi, rfl⟩ := List.getElem?_eq_some_iff.1 h
  unfold labTo
  rw [List.take_succ_eq_append_getElem hi, List.flatMap_append]
  simp [pairB]
abbrev PLE (a : Lab) (i : Nat) (vp v : Value) (l : List Int) : Env := [(22, true, .int .i64 (i : Int)), (20, true, .both (.val vp) (.one (Lay.sl pairL) a.ps)), (21, true, .int .i64 (a.ps.length : Int)), (5, true, .both (.val v) (.by l))]
def PLI (w0 : World) (F : Cell → Prop) (bs : List Int) (a : Lab) (vp : Value) (i : Nat) (ac : Act) (w : World) : Prop :=
  ∃ v, Grows byL byE w0.heap.size 5 F w v (labTo bs a i) ∧ StE False 38 (PLE a i vp v (labTo bs a i)) (And2 F (Sl v ((labTo bs a i).length * 1))) ac w ∧ Below w0.heap.size w0 w
set_option maxRecDepth 100000 in
theorem f37 {bs : List Int} {a : Lab} (hb : bs.length ≤ 100000) (hp : a.ps.length ≤ 100000) : Fn False Try.prog 37 [.by bs, .st rawL a] (.by (bs ++ labB a)) := fn2 fun w F v0 v1 h0 h1 hF => by
  obtain ⟨i0, hi0, hz0, hz1, hz2⟩ := info_parts Try.info5
  go_enter Try.func37, Try.ntmps37
  refine wp_seq ?_
  refine flowC mixed (st0 (U := False) (N := 38) (e := [(0, true, .by bs), (1, true, .st rawL a)]) (F := F) rfl rfl hF ⟨⟨rfl, h0⟩, ⟨⟨rfl, h1⟩, True.intro⟩⟩) (by kernel_rfl) (by kernel_rfl) (cc rfl (p_box bx_39 g0 (od rfl id))
      (cc rfl (p_assign g0 (oc _)) cn)) fun a1 w1 b1 s1 => ?_
  have z1 := b1
  refine wp_seq ?_
  obtain ⟨v3, ev3⟩ : ∃ x, a1.tmps.getD 3 undef = x := ⟨_, rfl⟩
  have s1 := s1.more 3 (y := .both (.val v3) (.at rawL a)) ⟨ev3, s1.get 3 rfl⟩
  have s1 := s1.more 0 (y := .both (.past w1.heap.size) (.by bs)) ⟨Nat.le_refl _, s1.get 0 rfl⟩
  refine flowR 10 mixed (s1.keep (sc 0 rfl (sc 3 rfl (sc 4 rfl sn)))) (by kernel_rfl) (by kernel_rfl) (cc rfl (p_move g0 (od rfl id))
      (cc rfl (p_copyOwn (B := w1.heap.size) byF Try.underlying22 hi0 hz0 hz1 hz2 rfl (by decide) (by decide) (by omega) g0 (od rfl id))
      (cc rfl (p_fieldAddr ptr0 fa_39_0 g0 (od2 rfl id))
      (cc rfl (p_loadI ld_3 g0 (od rfl id))
      (cc rfl (p_conv g0 (od rfl id) cv_3_5)
      (cc rfl (p_fieldAddr ptr1 fa_39_1 g0 (od2 rfl id))
      (cc rfl (p_load1 rfl ld_37 g0 (od rfl id))
      (cc rfl (p_len ln_37 g0 (od rfl id))
      (cc rfl (p_conv g0 (od rfl id) cv_3_5)
      (cc rfl (p_lits2 bs_22_2 g0 (od rfl id) (od rfl id)) cn)))))))))) fun a2 w2 b2 s2 => ?_
  have z2 := z1.trans (b2.mono z1.size)
  show wpList _ _ _ (_ :: _) _ _
  refine own_grow (F0 := F) (B := w.heap.size) (l2 := [IntKind.u8.wrap a.d, IntKind.u8.wrap (a.ps.length : Int)]) byF 9 17 id s1 s2 b2 (fun _ h => h) rfl rfl (by decide) rfl Try.underlying22 hi0 hz0 hz1 hz2 rfl (by decide) rfl rfl (ag 3 rfl rfl an) z1.size (by unfold maxLen; simp; omega) (by simp; omega) fun v w3 gr b3 s3 => ?_
  have z3 := z1.trans (b3.mono z1.size)
  refine chainT (t := []) (cc rfl (p_assign g0 (od rfl id)) cn) (by kernel_rfl) s3 fun a4 w4 b4 s4 => wpList_done ?_
  have z4 := z3.trans (b4.mono z3.size)
  have gr := gr.below b4
  refine wp_seq ?_
  refine wp_seq ?_
  refine flowC mixed (s4.keep (sc 3 rfl (sc 5 rfl sn))) (by kernel_rfl) (by kernel_rfl) (cc rfl (p_fieldAddr ptr1 fa_39_1 g0 (od2 rfl id))
      (cc rfl (p_load1 rfl ld_37 g0 (od rfl id))
      (cc rfl (p_len ln_37 g0 (od rfl id))
      (cc rfl (p_move g0 (oc _)) cn)))) fun a5 w5 b5 s5 => ?_
  have z5 := z4.trans (b5.mono z4.size)
  have gr := gr.below b5
  refine wp_block ?_
  rw [← labTo_0] at gr s5
  obtain ⟨vp, evp⟩ : ∃ x, a5.tmps.getD 20 undef = x := ⟨_, rfl⟩
  have s5 := s5.more 20 (y := .both (.val vp) (.one (Lay.sl pairL) a.ps)) ⟨evp, s5.get 20 rfl⟩
  refine wp_count a.ps.length 22 (PLI w F bs a vp) (fun _ _ _ ⟨_, _, hs, _⟩ => hs.get 22 rfl) ⟨_, gr, s5.to _ ⟨rfl, rfl, rfl, rfl, True.intro⟩, z5⟩ fun i a6 w6 hi6 hI => ?_
  obtain ⟨v, gr, s6, z6⟩ := hI
  have hll := labTo_len (bs := bs) (a := a) hi6
  refine wp_seq ?_
  refine flowC mixed (s6.keep (sc 5 rfl (sc 20 rfl (sc 21 rfl (sc 22 rfl sn))))) (by kernel_rfl) (by kernel_rfl) (cc rfl (p_bin g0 (od rfl id) (od rfl id) b_lss_3) cn) fun a7 w7 b7 s7 => ?_
  have z7 := z6.trans (b7.mono z6.size)
  have gr := gr.below b7
  refine wp_seq ?_
  refine s7.cond 23 rfl (fun h => ?_) (fun h => ?_)
  · -- true
    have hlt : i < a.ps.length := by simpa using h
    obtain ⟨pr, ep⟩ : ∃ x, a.ps[i]? = some x := ⟨_, List.getElem?_eq_getElem hlt⟩
    refine wp_skip ?_
    refine wp_seq ?_
    refine wp_block ?_
    refine wp_seq ?_
    refine flowQ 3 mixed (s7.keep (sc 5 rfl (sc 20 rfl (sc 21 rfl (sc 22 rfl (sc 23 rfl sn)))))) (by kernel_rfl) (by kernel_rfl) (cc rfl (p_index ix_37 ep g0 (od2 rfl id) (od rfl id))
        (cc rfl (p_load Try.underlying90 rfl sz_90 g0 (od rfl id))
        (ca rfl (m_alloc al_90 (fun h => h.elim)) cn))) (by kernel_rfl) (ss rfl rfl rfl rfl puts_st sz_90 rfl rfl ss0) fun a8 w8 b8 s8 => ?_
    have z8 := z7.trans (b8.mono z7.size)
    have gr := gr.below b8
    have s8' := s8.more 5 (y := .both (.past w8.heap.size) (.by (labTo bs a i))) ⟨Nat.le_refl _, (s8.get 5 rfl).2⟩
    refine flowR 9 mixed (s8'.keep (sc 5 rfl (sc 7 rfl (sc 20 rfl (sc 21 rfl (sc 22 rfl sn)))))) (by kernel_rfl) (by kernel_rfl) (cc rfl (p_move g0 (od rfl id))
        (cc rfl (p_fieldAddr pt90_0 fa_90_0 g0 (od rfl id))
        (cc rfl (p_loadI ld_70 g0 (od rfl id))
        (cc rfl (p_conv g0 (od rfl id) cv_70_23)
        (cc rfl (p_call 29 g0 (ox (od rfl id) (ox (oc _) (ox (od rfl id) ox0))) (fun _ _ => by kernel_rfl) (f29own (B := w8.heap.size) (n := 4) (by omega) (by decide)))
        (cc rfl (p_fieldAddr pt90_1 fa_90_1 g0 (od rfl id))
        (cc rfl (p_loadI ld_3 g0 (od rfl id))
        (cc rfl (p_conv g0 (od rfl id) cv_3_5)
        (cc rfl (p_lits1 bs_22_1 g0 (od rfl id)) cn))))))))) fun a9 w9 b9 s9 => ?_
    have z9 := z8.trans (b9.mono z8.size)
    show wpList _ _ _ (_ :: _) _ _
    refine own_grow (F0 := F) (B := w.heap.size) (l := labTo bs a i ++ Pk.putL 4 (IntKind.u64.wrap pr.1)) (l2 := [IntKind.u8.wrap pr.2]) byF 30 34 id s8 s9 b9 (fun _ h => .inl h) rfl rfl (by decide) rfl Try.underlying22 hi0 hz0 hz1 hz2 rfl (by decide) rfl rfl (ag 20 rfl rfl (av 21 rfl (av 22 rfl an))) z8.size (by unfold maxLen; simp [Pk.putL_length]; omega) (by simp [Pk.putL_length]; omega) fun v w10 gr b10 s10 => ?_
    have z10 := z8.trans (b10.mono z8.size)
    rw [← labTo_step ep] at gr s10
    refine chainT (t := []) (cc rfl (p_assign g0 (od rfl id)) cn) (by kernel_rfl) s10 fun a11 w11 b11 s11 => wpList_done ?_
    have z11 := z10.trans (b11.mono z10.size)
    have gr := gr.below b11
    refine flowT (s11.keep (sc 5 rfl (sc 20 rfl (sc 21 rfl (sc 22 rfl (sc 35 rfl sn)))))) (by kernel_rfl) (cc rfl (p_bin g0 (od rfl id) (oc _) (inc_3 (by omega)))
        (cc rfl (p_move g0 (od rfl id)) cn)) fun a12 w12 b12 s12 => ?_
    have z12 := z11.trans (b12.mono z11.size)
    have gr := gr.below b12
    exact ⟨hlt, v, gr, s12.to _ ⟨rfl, rfl, rfl, rfl, True.intro⟩, z12⟩
  · -- false
    obtain rfl : i = a.ps.length := by have := of_decide_eq_false h; (try dsimp only at this); omega
    rw [labTo_end] at gr s7
    refine wp_exit ?_
    refine wp_seq ?_
    refine flowC mixed (s7.keep (sc 5 rfl (sc 20 rfl (sc 21 rfl (sc 22 rfl sn))))) (by kernel_rfl) (by kernel_rfl) (cc rfl (p_move g0 (od rfl id))
        (cc rfl (p_assign g0 (od rfl id)) cn)) fun a13 w13 b13 s13 => ?_
    have z13 := z7.trans (b13.mono z7.size)
    have gr := gr.below b13
    have s13 := s13.less (F' := F) (fun _ h => .inl h)
    have s13 := s13.more 4 (y := .by (bs ++ labB a)) (s13.get 4 rfl).2
    exact wp_ret (ret_tmp (fn := Try.f37) s13 4 rfl rfl (fun _ h => h) z13)
end Go.Proofs.Ytihddficgpjgpaa.Y
