/- Ysegs: maps.Segs -/
import Derived.Test.YtbeeiecbbmiojaaYbin
namespace Go.Proofs.Ytbeeiecbbmiojaa.Y
open Go.RowKit Go.ChangeShapes Go.WideShapes Go.ChangeAt

/-- A row of a call's own is laid anew, or moved. -/
theorem StE.regrow {U : Prop} {N : Nat} {e : Env} {F0 : Cell → Prop} {a : Act} {w w' : World} {v v' : Value} (hu : ¬ U) (h : StE U N e (And2 F0 (Sl v 0)) a w) (hg : w.grownBy w' v.ownBlock) (h5 : v'.ownBlock = v.ownBlock ∨ v'.ownBlock = some w.heap.size) (hlt : ∀ g, v'.ownBlock = some g → g < w'.heap.size) : StE U N e (And2 F0 (Sl v' 0)) a w' := by
  have hkeep : Keeps (And2 F0 (Sl v 0)) w w' := ⟨hg.size, fun k hk hn => World.cell?_of_block (hg.block k.1 hk fun e => hn (.inr ⟨e.symm, Nat.zero_le _⟩)), fun b hb hn => hg.block b hb fun e => hn 0 (.inr ⟨e.symm, Nat.zero_le _⟩)⟩
  have hsub : ∀ k : Cell, k.1 < w.heap.size → And2 F0 (Sl v' 0) k → And2 F0 (Sl v 0) k := fun k hk h' => by
    rcases h' with h' | ⟨h1, h4⟩
    · exact .inl h'
    · rcases h5 with h5 | h5
      · exact .inr ⟨h5 ▸ h1, h4⟩
      · rw [h5] at h1; injection h1 with h1; omega
  refine ⟨h.size, h.defers, ⟨fun k hk => ?_, fun u => absurd u hu⟩, fun s k hs => (h.known s k hs).mono hkeep hsub⟩
  rcases hk with hk | ⟨hk, _⟩
  · exact Nat.lt_of_lt_of_le (h.fok.lt k (.inl hk)) hg.size
  · exact hlt _ hk
abbrev u64E (x : Int) : List Value := [.int .u64 x]
abbrev SegE (l : List M) (i : Nat) (v : Value) : Env := [(10, true, .int .i64 (i : Int)), (8, true, .one (Lay.sl mapL) l), (9, true, .int .i64 (l.length : Int)), (3, true, .val v), (0, true, .one (Lay.sl mapL) l), (2, true, .val (.slice none 0 0))]
def SegI (w0 : World) (F : Cell → Prop) (B : Nat) (l : List M) (i : Nat) (a : Act) (w : World) : Prop := ∃ v, Grows (Lay.int .u64) u64E B 28 F w v (segsTo l i) ∧ StE False 31 (SegE l i v) (And2 F (Sl v 0)) a w ∧ Below w0.heap.size w0 w
theorem f47c {l : List Int} {x : Int} (hs : l.Pairwise (· < ·)) (hl : l.length ≤ 1000000) {w : World} {v : Value} (hv : (Sym.one (Lay.sl (Lay.int .u64)) l).on w noF v) : Calls Try.prog 47 #[v, .int .u64 x] w fun e w' => ∃ r, e = .returned r ∧ (Sym.two (.int .i64 (posU l x : Int)) (.bool (decide (x ∈ l)))).on w' noF r ∧ Below w.heap.size w w' :=
  f47 hs hl w noF [v, .int .u64 x] rfl (fun i u y h1 h2 => by
    match i, h1, h2 with
    | 0, h1, h2 => simp at h1 h2; subst h1 h2; exact hv
    | 1, h1, h2 => simp at h1 h2; subst h1 h2; rfl) (fok_none False w)
theorem ins_cells (l : List Int) (i : Nat) (x : Int) : (l.flatMap u64E).take i ++ [Value.int .u64 x] ++ (l.flatMap u64E).drop i = (l.take i ++ x :: l.drop i).flatMap u64E := by
  have h1 := flat_u64.take l i
  have h2 := flat_u64.drop l i
  simp only [show (Lay.int .u64).n = 1 from rfl, Nat.mul_one] at h1 h2
  rw [List.flatMap_append, List.flatMap_cons, ← h1, ← h2]
  simp
theorem insS_new {l : List Int} {x : Int} (h : (!decide (x ∈ l)) = true) : insS l x = l.take (posU l x) ++ x :: l.drop (posU l x) := by unfold insS; rw [if_neg (by simpa using h)]
theorem insS_old {l : List Int} {x : Int} (h : (!decide (x ∈ l)) = false) : insS l x = l := by unfold insS; rw [if_pos (by simpa using h)]
theorem p_lookupE {P : Program} {U : Prop} {ops : Array Oper} {Q : Exit → Act → World → Prop} {N d : Nat} {e : Env} {t : TypeId} {p : String} {af : Array Edge} {g : Option (Nat × Bool)} {c : Bool} {x x2 : Operand} {k : IntKind} {l : List (Int × Value)} {n : Int} {T kt et : TypeId} {z v : Value} (hv : (l.lookup n).getD z = v) (ht : P.underlying T = some (.map kt et)) (hk : P.underlying kt = some (.int k)) (hz : ∀ w, (zeroValue et).run P w = .ok z w)
    (hg : GdE ops e g c) (hx : OpdE e c x (.map k l)) (hx2 : OpdE e c x2 (.int k n)) : Pays U P ops Q N e ⟨some d, .lookup T x x2 false, t, p, af, g⟩ (c, .val v) := hv ▸ p_lookup ht hk hz hg hx hx2
set_option maxRecDepth 100000 in
theorem f27 {l : List M} (hl : l.length ≤ 1000000) : Fn False Try.prog 27 [.one (Lay.sl mapL) l] (.one (Lay.sl (Lay.int .u64)) (segsTo l l.length)) := fn1 fun w F v0 h0 hF => by
  go_enter Try.func27, Try.ntmps27
  refine wp_seq ?_
  refine flowC mixed (st0 (U := False) (N := 31) (e := [(0, true, .one (Lay.sl mapL) l)]) (F := F) rfl rfl hF ⟨⟨rfl, h0⟩, True.intro⟩) (by kernel_rfl) (by kernel_rfl) (cc rfl (p_assign g0 (oc _)) cn) fun a1 w1 b1 s1 => ?_
  have z1 := b1
  refine wp_seq ?_
  refine flowC mixed (s1.keep (sc 0 rfl (sc 2 rfl sn))) (by kernel_rfl) (by kernel_rfl) (cc rfl (p_assign g0 (oc _)) cn) fun a2 w2 b2 s2 => ?_
  have z2 := z1.trans (b2.mono z1.size)
  refine wp_seq ?_
  refine wp_seq ?_
  refine flowC mixed (s2.keep (sc 0 rfl (sc 2 rfl (sc 3 rfl sn)))) (by kernel_rfl) (by kernel_rfl) (cc rfl (p_move g0 (od rfl id))
      (cc rfl (p_len ln_41 g0 (od rfl id))
      (cc rfl (p_move g0 (oc _)) cn))) fun a3 w3 b3 s3 => ?_
  have z3 := z2.trans (b3.mono z2.size)
  refine wp_block ?_
  have s3 := s3.less (F' := And2 F (Sl (.slice none 0 0) 0)) (fun k hk => by rcases hk with hk | ⟨hk, _⟩; exact hk; cases hk)
  refine wp_count l.length 10 (SegI w F w.heap.size l) (fun _ _ _ ⟨_, _, hs, _⟩ => hs.get 10 rfl) ⟨_, Grows.nil, s3.to _ ⟨rfl, rfl, rfl, rfl, rfl, rfl, True.intro⟩, z3⟩ fun i a4 w4 hi4 hI => ?_
  obtain ⟨v, gr, s4, z4⟩ := hI
  have hsl := segs_len l i
  refine wp_seq ?_
  refine flowC mixed (s4.keep (sc 0 rfl (sc 2 rfl (sc 3 rfl (sc 8 rfl (sc 9 rfl (sc 10 rfl sn))))))) (by kernel_rfl) (by kernel_rfl) (cc rfl (p_bin g0 (od rfl id) (od rfl id) b_lss_3) cn) fun a5 w5 b5 s5 => ?_
  have z5 := z4.trans (b5.mono z4.size)
  have gr := gr.below b5
  refine wp_seq ?_
  refine s5.cond 11 rfl (fun h => ?_) (fun h => ?_)
  · -- true
    have hlt : i < l.length := by simpa using h
    have em := at_getD hlt
    refine wp_skip ?_
    refine wp_seq ?_
    refine wp_block ?_
    refine wp_seq ?_
    refine flowQ 3 mixed (s5.keep (sc 0 rfl (sc 2 rfl (sc 3 rfl (sc 8 rfl (sc 9 rfl (sc 10 rfl (sc 11 rfl sn)))))))) (by kernel_rfl) (by kernel_rfl) (cc rfl (p_index ix_41 em g0 (od rfl id) (od rfl id))
        (cc rfl (p_load Try.underlying69 rfl sz_69 g0 (od rfl id))
        (ca rfl (m_alloc al_69 (fun h => h.elim)) cn))) (by kernel_rfl) (ss rfl rfl rfl rfl puts_st sz_69 rfl rfl ss0) fun a6 w6 b6 s6 => ?_
    have z6 := z5.trans (b6.mono z5.size)
    have gr := gr.below b6
    refine wp_seq ?_
    refine wp_region_lit ?_
    refine chainK 3 (cc rfl (p_move g0 (od rfl id))
        (cc rfl (p_fieldAddr pt69_1 fa_69_1 g0 (od rfl id))
        (cc rfl (p_loadI ld_28 g0 (od rfl id)) cn))) (by kernel_rfl) (s6.keep (sc 0 rfl (sc 2 rfl (sc 3 rfl (sc 5 rfl (sc 8 rfl (sc 9 rfl (sc 10 rfl (sc 11 rfl (sc 12 rfl (sc 13 rfl sn))))))))))) fun a7 w7 b7 s7 => ?_
    have z7 := z6.trans (b7.mono z6.size)
    have gr := gr.below b7
    show wpList _ _ _ (_ :: _) _ _
    have HC := f47c (x := (l.getD i noM).sg) (segs_sorted l i) (by omega) (sl_of_own flat_u64 gr.own (F := noF) (fun _ _ _ _ h => h))
    have e15 : a7.tmps.getD 15 undef = v := s7.get 15 rfl
    have e17 : a7.tmps.getD 17 undef = .int .u64 (l.getD i noM).sg := s7.get 17 rfl
    refine call_on 47 [.tmp 15, .tmp 17] rfl (fun _ _ => by kernel_rfl) ?_
    refine (show Calls Try.prog 47 #[a7.tmps.getD 15 undef, a7.tmps.getD 17 undef] w7 _ from by rw [e15, e17]; exact HC).mono ?_
    rintro _ w8 ⟨r, rfl, hr, b8⟩
    refine ⟨r, rfl, ?_⟩
    have s8 := s7.put (d := 18) (k := (true, .two (.int .i64 (posU (segsTo l i) (l.getD i noM).sg : Int)) (.bool (decide ((l.getD i noM).sg ∈ segsTo l i))))) b8 (by decide) ⟨fun _ => hr, fun e => by cases e⟩
    have z8 := z7.trans (b8.mono z7.size)
    have gr := gr.below b8
    refine chainT (t := []) (cc rfl (p_move g0 (od rfl id))
        (cc rfl (p_ext0 g0 (od rfl id))
        (cc rfl (p_ext1 g0 (od rfl id))
        (cc rfl (p_assign g0 (od rfl id))
        (cc rfl (p_assign g0 (od rfl id)) cn))))) (by kernel_rfl) s8 fun a9 w9 b9 s9 => wpList_done ?_
    have z9 := z8.trans (b9.mono z8.size)
    have gr := gr.below b9
    refine wp_seq ?_
    refine flowC mixed (s9.keep (sc 0 rfl (sc 2 rfl (sc 3 rfl (sc 5 rfl (sc 6 rfl (sc 7 rfl (sc 8 rfl (sc 9 rfl (sc 10 rfl (sc 11 rfl (sc 12 rfl (sc 13 rfl (sc 14 rfl (sc 15 rfl (sc 16 rfl (sc 17 rfl (sc 18 rfl (sc 19 rfl (sc 20 rfl sn)))))))))))))))))))) (by kernel_rfl) (by kernel_rfl) (cc rfl (p_move g0 (od rfl id))
        (cc rfl (p_not g0 (od rfl id)) cn)) fun a10 w10 b10 s10 => ?_
    have z10 := z9.trans (b10.mono z9.size)
    have gr := gr.below b10
    refine s10.cond 22 rfl (fun h22 => ?_) (fun h22 => ?_)
    · -- true
      have hnew := insS_new h22
      refine wp_region_lit ?_
      refine chainK 5 (cc rfl (p_move g0 (od rfl id))
          (cc rfl (p_move g0 (od rfl id))
          (cc rfl (p_fieldAddr pt69_1 fa_69_1 g0 (od rfl id))
          (cc rfl (p_loadI ld_28 g0 (od rfl id))
          (cc rfl (p_lits1 bs_29 g0 (od rfl id)) cn))))) (by kernel_rfl) (s10.keep (sc 0 rfl (sc 2 rfl (sc 3 rfl (sc 5 rfl (sc 6 rfl (sc 7 rfl (sc 8 rfl (sc 9 rfl (sc 10 rfl (sc 11 rfl (sc 12 rfl (sc 13 rfl (sc 14 rfl (sc 15 rfl (sc 16 rfl (sc 17 rfl (sc 18 rfl (sc 19 rfl (sc 20 rfl (sc 21 rfl (sc 22 rfl sn)))))))))))))))))))))) fun a11 w11 b11 s11 => ?_
      have z11 := z10.trans (b11.mono z10.size)
      have gr := gr.below b11
      show wpList _ _ _ (_ :: _) _ _
      obtain ⟨A, cp, rfl⟩ := own_slice gr.own
      obtain ⟨vb, e27, hvb, hnb⟩ := (s11.get 27 rfl).1
      have hpl := posU_le (segsTo l i) (l.getD i noM).sg
      have HC := insert_anyU w.heap.size vb _ cp (posU (segsTo l i) (l.getD i noM).sg) [.int .u64 (l.getD i noM).sg] rfl (by simp [Value.oneCell']) A _ w11 gr.own (flat_u64.ones _) hvb (fun e => hnb 0 (.inr ⟨e.symm, Nat.zero_le _⟩)) hpl (by omega) z11.size
      have e23 : a11.tmps.getD 23 undef = .slice A (segsTo l i).length cp := s11.get 23 rfl
      have e24 : a11.tmps.getD 24 undef = .int .i64 (posU (segsTo l i) (l.getD i noM).sg : Int) := s11.get 24 rfl
      refine call_on 48 [.tmp 23, .tmp 24, .tmp 27] rfl (fun _ _ => by kernel_rfl) ?_
      refine (show Calls Try.prog 48 #[a11.tmps.getD 23 undef, a11.tmps.getD 24 undef, a11.tmps.getD 27 undef] w11 _ from by rw [e23, e24, e27]; exact HC).mono ?_
      rintro _ w12 ⟨v2, rfl, o2, g2, q2⟩
      refine ⟨v2, rfl, ?_⟩
      rw [ins_cells] at o2
      have gr2 : Grows (Lay.int .u64) u64E w.heap.size 28 F w12 v2 (segsTo l (i + 1)) := ⟨by rw [segsTo, hnew]; rw [show (List.take (posU (segsTo l i) (l.getD i noM).sg) (segsTo l i) ++ (l.getD i noM).sg :: List.drop (posU (segsTo l i) (l.getD i noM).sg) (segsTo l i)).length = (segsTo l i).length + 1 by simp; omega]; exact o2, fun g o hg hf => by
        rcases q2 with q2 | q2
        · exact gr.dis g o (q2 ▸ hg) hf
        · rw [q2] at hg; cases hg; exact Nat.lt_irrefl _ (s11.fok.lt (w11.heap.size, o) (.inl hf))⟩
      have s12 := (s11.regrow id g2 q2 (fun g hg => (o2.lt g hg).2)).put (d := 28) (k := (true, .val v2)) (Below.refl _ _) (by decide) ⟨fun _ => rfl, fun e => by cases e⟩
      have z12 := z11.grown g2 z11.size fun k e => own_base gr.own e
      refine chainT (t := []) (cc rfl (p_assign g0 (od rfl id)) cn) (by kernel_rfl) s12 fun a13 w13 b13 s13 => wpList_done ?_
      have z13 := z12.trans (b13.mono z12.size)
      have gr2 := gr2.below b13
      refine flowT (s13.keep (sc 0 rfl (sc 2 rfl (sc 3 rfl (sc 5 rfl (sc 6 rfl (sc 7 rfl (sc 8 rfl (sc 9 rfl (sc 10 rfl (sc 11 rfl (sc 12 rfl (sc 13 rfl (sc 14 rfl (sc 15 rfl (sc 16 rfl (sc 17 rfl (sc 18 rfl (sc 19 rfl (sc 20 rfl (sc 21 rfl (sc 22 rfl (sc 23 rfl (sc 24 rfl (sc 25 rfl (sc 26 rfl (sc 27 rfl (sc 28 rfl sn)))))))))))))))))))))))))))) (by kernel_rfl) (cc rfl (p_bin g0 (od rfl id) (oc _) (inc_3 (by omega)))
          (cc rfl (p_move g0 (od rfl id)) cn)) fun a14 w14 b14 s14 => ?_
      have z14 := z13.trans (b14.mono z13.size)
      have gr2 := gr2.below b14
      exact ⟨hlt, v2, gr2, s14.to _ ⟨rfl, rfl, rfl, rfl, rfl, rfl, True.intro⟩, z14⟩
    · -- false
      have eo := insS_old h22
      have gr : Grows (Lay.int .u64) u64E w.heap.size 28 F w10 v (segsTo l (i + 1)) := by rw [segsTo, eo]; exact gr
      refine wp_skip ?_
      refine flowT (s10.keep (sc 0 rfl (sc 2 rfl (sc 3 rfl (sc 5 rfl (sc 6 rfl (sc 7 rfl (sc 8 rfl (sc 9 rfl (sc 10 rfl (sc 11 rfl (sc 12 rfl (sc 13 rfl (sc 14 rfl (sc 15 rfl (sc 16 rfl (sc 17 rfl (sc 18 rfl (sc 19 rfl (sc 20 rfl (sc 21 rfl (sc 22 rfl sn)))))))))))))))))))))) (by kernel_rfl) (cc rfl (p_bin g0 (od rfl id) (oc _) (inc_3 (by omega)))
          (cc rfl (p_move g0 (od rfl id)) cn)) fun a15 w15 b15 s15 => ?_
      have z15 := z10.trans (b15.mono z10.size)
      have gr := gr.below b15
      exact ⟨hlt, v, gr, s15.to _ ⟨rfl, rfl, rfl, rfl, rfl, rfl, True.intro⟩, z15⟩
  · -- false
    obtain rfl : i = l.length := by have := of_decide_eq_false h; (try dsimp only at this); omega
    refine wp_exit ?_
    refine wp_seq ?_
    refine flowT (s5.keep (sc 0 rfl (sc 2 rfl (sc 3 rfl (sc 8 rfl (sc 9 rfl (sc 10 rfl sn))))))) (by kernel_rfl) (cc rfl (p_move g0 (od rfl id))
        (cc rfl (p_assign g0 (od rfl id)) cn)) fun a16 w16 b16 s16 => ?_
    have z16 := z5.trans (b16.mono z5.size)
    have gr := gr.below b16
    have s16 := s16.less (F' := F) (fun _ h => .inl h)
    have s16 := s16.more 2 (y := .one (Lay.sl (Lay.int .u64)) (segsTo l l.length)) (by rw [show _ = _ from s16.get 2 (y := .val v) rfl]; exact sl_of_own flat_u64 gr.own (fun g o hg _ => gr.dis g o hg))
    exact wp_ret (ret_tmp (fn := Try.f27) s16 2 rfl rfl (fun _ h => h) z16)

end Go.Proofs.Ytbeeiecbbmiojaa.Y
