/- TableLooks: threads and gates are looked at at rest, others as they are; each costs its own page, threads their tables, too. -/
import Derived.Test.YtbeeiecbbmiojaaYlk
import Derived.Test.YtbeeiecbbmiojaaHead
namespace Go.Proofs.Ytbeeiecbbmiojaa.Y.Lb
open Go.Proofs.Ytbeeiecbbmiojaa.Lb
open Go.RowKit Go.ChangeShapes Go.WideShapes Go.ChangeAt Go.ChangeMaps Go.MapKept

theorem all_arr {l : List Value} (h : ∀ u ∈ l, u.oneCell' = true) : (l.toArray).all (fun u => u.oneCell') = true := by simpa using h
section
variable {U : Prop} {P : Program} {Q : Exit → Act → World → Prop} {N : Nat} {e : Env} {F : Cell → Prop} {a : Act} {w : World} {ops : Array Oper} {rest : List Oper} {o : Oper}
theorem nou_blk {g : Nat} {T : TypeId} {cs : Array Value} (hB : Blk w g T cs) (h : ∀ (i : Nat) (x : Int), cs[i]? ≠ some (.int .u32 x)) (o : Nat) (x : Int) : w.cell? ⟨g, o, none⟩ ≠ some (.int .u32 x) := by rw [hB.cell]; exact h o x
theorem alloc_U {d : Nat} {u : TypeId} {z : Array Value} (h : StE U N e F a w) (hz : U → ∀ (i : Nat) (x : Int), z[i]? ≠ some (.int .u32 x)) (hd : o.dst = some d) (hdN : decide (d < N) = true) (hgd : o.guard = none) (hr : ∀ (ev : Operand → Value) (w : World), (execOp ev o).run P w = .ok (.value (.pointer (some ⟨w.heap.size, 0, none⟩))) (w.alloc (.cells z u)))
    (hQ : ∀ g a' w', Blk w' g u z → w.heap.size ≤ g → Below w.heap.size w w' → StE U N ((d, true, .val (.pointer (some ⟨g, 0, none⟩))) :: e) (And2 F (AtB g)) a' w' → wpList P ops Q rest a' w') : wpList P ops Q (o :: rest) a w := by
  have hb : Below w.heap.size w (w.alloc (.cells z u)) := (Below.refl _ _).alloc (Nat.le_refl _) _
  have hB := Blk.new w u z
  refine wpList_plain hgd fun K hK => ?_
  unfold Oper.wp
  rw [hr]
  refine hK _ _ ?_
  rw [hd]
  exact hQ _ _ _ hB (Nat.le_refl _) hb (h.freshV hb (Nat.le_refl _) hB.lt (fun u => nou_blk hB (hz u)) (by simpa using hdN))
theorem store_U {α : Type} {L : Lay α} {x : α} {gq : Nat} {T T' : TypeId} {z : Array Value} (t s : Nat) (h : StE U N e F a w) (h1 : o.op = .store T (.tmp t) (.tmp s)) (h2 : o.dst = none) (h3 : o.guard = none) (hx : e.lookup s = some (true, .st L x))
    (hg : e.lookup t = some (true, .val (.pointer (some ⟨gq, 0, none⟩)))) (hB : Blk w gq T' z) (hz : z.size = L.n) (h4 : (P.info? T).map (·.size) = some L.n) (hF : ∀ o, F (gq, o)) (hn : U → ∀ {w : World} {F : Cell → Prop} {cs : List Value}, L.on w F cs x → ∀ y : Int, Value.int .u32 y ∉ cs)
    (hQ : ∀ cs a' w', Blk w' gq T' cs → cs.size = L.n → L.on w' F cs.toList x → w.grownBy w' (some gq) → StE U N e F a' w' → wpList P ops Q rest a' w') : wpList P ops Q (o :: rest) a w := by
  obtain ⟨cs, e1, hL⟩ := h.get s hx
  have hl := L.len hL
  refine wpList_store_rowTo h3 T (.tmp t) (.tmp s) h1 h2 gq cs.toArray (h.get t hg) e1 T' z hB (by rw [h4]; simp [hl]) (by simp [hz, hl]) (all_arr (L.one hL)) ?_
  have hB' := setRow_heap w gq z cs.toArray T' (0, 0) hB
  have G : w.grownBy (w.setRow gq cs.toArray) (some gq) := ⟨rfl, rfl, rfl, by rw [size_setRow]; exact Nat.le_refl _, fun k _ hk => setRow_other w gq k cs.toArray (fun e => hk (by rw [e]))⟩
  exact hQ cs.toArray _ _ hB' (by simp [hl]) (by simpa using L.mono hL (keeps_grown G hF) fun _ _ h => h) G (h.wroteB G hF fun u => nou_blk hB' fun i y hi => hn u hL y (List.mem_of_getElem? (by simpa using hi)))
theorem ldst_on {α : Type} {L : Lay α} {x : α} {g d : Nat} {T Tg : TypeId} {cs : Array Value} {ty : TypeDesc} {xo : Operand} (h : StE U N e F a w) (ho : o.op = .load T xo) (hd : o.dst = some d) (hdN : decide (d < N) = true) (hgd : o.guard = none)
    (hx : a.eval xo = .pointer (some ⟨g, 0, none⟩)) (hB : Blk w g Tg cs) (hL : L.on w F cs.toList x) (hu : P.underlying T = some ty) (hr : ty.isRow = true) (hn : (P.info? T).map (·.size) = some L.n)
    (hQ : ∀ a', StE U N ((d, true, .st L x) :: e) F a' w → wpList P ops Q rest a' w) : wpList P ops Q (o :: rest) a w := by
  refine wpList_plain hgd fun K hK => ?_
  refine wp_load_mid T xo ho g 0 hx cs.toList ty (fun j v hv => by rw [Nat.zero_add, hB.cell]; simpa using hv) hu hr (by rw [L.len hL]; exact hn) (hK _ _ ?_)
  rw [hd]
  exact hQ _ (h.put (Below.refl _ _) (by simpa using hdN) ⟨fun _ => ⟨cs.toList, by simp, hL⟩, fun e => by cases e⟩)
end
theorem at_blkL {α : Type} {L : Lay α} {x : α} {w : World} {F : Cell → Prop} {g : Nat} {T : TypeId} {cs : Array Value} (hB : Blk w g T cs) (hL : L.on w F cs.toList x) {v : Value} (hv : v = .pointer (some ⟨g, 0, none⟩)) : (Sym.at L x).on w noF v := by
  subst hv
  exact at_of_blk hB (L.mono hL (.refl _ _) fun _ _ h => h.elim) fun _ h => h
theorem cost_no {k : Int} (h : ¬ k = 3) : costK k = 1 := by
  unfold costK
  rw [if_neg h]
  split <;> rfl
theorem cat_of {i : Nat} (h : i < 8) : IntKind.u32.wrap (IntKind.i64.wrap ((i : Int) + 1)) = (i : Int) + 1 := by
  rw [IntKind.wrap_i64, IntKind.wrap_u32]
  omega
set_option maxRecDepth 100000 in
theorem tableLooks_walk (w : World) (v0 v1 : Value) (q : Int) (l : List Int) (h0 : (.int .i64 q : Sym).on w noF v0) (h1 : (.one (Lay.sl (Lay.int .i64)) l : Sym).on w noF v1) (hl : l.length ≤ maxLen): Calls Try.prog 10 #[v0, v1] w fun e w' => e = .returned (.bool true) ∧ Below w.heap.size w w' := by
  unfold maxLen at hl
  go_enter Try.func10, Try.ntmps10
  refine wp_seq ?_
  refine flowC mixed (st0 (U := True) (N := 65) (e := [(0, true, .int .i64 q), (1, true, .one (Lay.sl (Lay.int .i64)) l)]) (F := noF) rfl rfl (fok_none True w) ⟨⟨rfl, h0⟩, ⟨⟨rfl, h1⟩, True.intro⟩⟩) (by kernel_rfl) (by kernel_rfl) (cc rfl (p_assign g0 (oc _)) cn) fun a1 w1 b1 s1 => ?_
  have z1 := b1
  refine wp_seq ?_
  refine wp_seq ?_
  refine flowC mixed (s1.keep (sc 0 rfl (sc 1 rfl (sc 4 rfl sn)))) (by kernel_rfl) (by kernel_rfl) (cc rfl (p_call 13 g0 ox0 (fun _ _ => by kernel_rfl) f13)
      (cc rfl (p_not g0 (od rfl id)) cn)) fun a2 w2 b2 s2 => ?_
  have z2 := z1.trans (b2.mono z1.size)
  refine s2.cond 12 rfl (fun h => absurd h (by decide)) fun _ => ?_
  refine wp_skip ?_
  refine wp_seq ?_
  refine flowT (s2.keep (sc 0 rfl (sc 1 rfl (sc 4 rfl sn)))) (by kernel_rfl) (cc rfl (p_move g0 (od rfl id))
      (cc rfl (p_bin g0 (od rfl id) (oc _) (b_rem_3 (by decide)))
      (cc rfl (p_bin g0 (od rfl id) (oc _) b_add_3)
      (cc rfl (p_bin g0 (od rfl id) (oc _) (b_rem_3 (by decide)))
      (cc rfl (p_bin g0 (od rfl id) (oc _) b_add_3)
      (cc rfl (p_assign g0 (od rfl id)) cn)))))) fun a3 w3 b3 s3 => ?_
  have z3 := z2.trans (b3.mono z2.size)
  obtain ⟨kd, ekd⟩ : ∃ k, k = IntKind.i64.wrap ((IntKind.i64.wrap (q.tmod 6 + 6)).tmod 6 + 1) := ⟨_, rfl⟩
  have s3 := s3.more 0 (y := .int .i64 kd) (by rw [ekd]; exact s3.get 0 rfl)
  refine wp_seq ?_
  refine wp_region_lit ?_
  refine with_st (s3.keep (sc 0 rfl (sc 1 rfl sn))) fun s3 => ?_
  refine chainK 1 (cc rfl (p_call 28 g0 (ox (oc _) ox0) (fun _ _ => by kernel_rfl) f60) cn) (by kernel_rfl) s3 fun a4 w4 b4 s4 => ?_
  have z4 := z3.trans (b4.mono z3.size)
  show wpList _ _ _ (_ :: _) _ _
  refine alloc_U (u := 34) (z := #[.int .i64 0, .slice none 0 0]) s4 nu34 rfl (by decide) rfl (fun ev w => al_34 ev w) fun g5 a5 w5 k5 hg5 b5 s5 => ?_
  have hw5 := Nat.le_trans z4.size hg5
  have z5 := z4.trans (b5.mono z4.size)
  show wpList _ _ _ (_ :: _) _ _
  refine store_U (L := labL 0) 5 18 s5 rfl rfl rfl rfl rfl k5 rfl sz_34 (fun _ => .inr rfl) nul fun cs5 a6 w6 k5 hsz5 hL5 G5 s6 => ?_
  have z6 := z5.grown G5 z5.size (fun k e => by cases e; exact hw5)
  have s6 := s6.less (F' := AtB g5) (fun _ h => .inr h)
  have hL5 := (labL 0).mono hL5 (.refl _ _) (F' := AtB g5) (fun _ _ h => .inr h)
  refine wpList_done ?_
  refine wp_seq ?_
  refine wp_seq ?_
  refine flowC mixed (s6.keep (sc 0 rfl (sc 1 rfl (sc 5 rfl sn)))) (by kernel_rfl) (by kernel_rfl) (cc rfl (p_move g0 (od rfl id))
      (cc rfl (p_len ln_22 g0 (od rfl id))
      (cc rfl (p_move g0 (oc _)) cn))) fun a7 w7 b7 s7 => ?_
  have z7 := z6.trans (b7.mono z6.size)
  have k5 := k5.below b7 k5.lt
  have hL5 := (labL 0).mono hL5 (.of b7) (fun _ _ h => h)
  refine wp_block ?_
  refine wp_count l.length 21 (fun i a wr => ∃ k lb cs, Blk wr g5 34 cs ∧ (labL k).on wr (AtB g5) cs.toList lb ∧ cs.size = 2 ∧ (k ≤ 8 ∧ k ≤ i) ∧ Below w.heap.size w wr ∧ StE True 65 [(0, true, .int .i64 kd), (5, true, .val (.pointer (some ⟨g5, 0, none⟩))), (19, true, .one (Lay.sl (Lay.int .i64)) l), (20, true, .int .i64 (l.length : Int)), (21, true, .int .i64 (i : Int))] (AtB g5) a wr) (fun _ _ _ ⟨_, _, _, _, _, _, _, _, h⟩ => h.get 21 rfl) ⟨0, _, _, k5, hL5, hsz5, ⟨by omega, by omega⟩, z7, s7.to _ ⟨rfl, rfl, rfl, rfl, rfl, True.intro⟩⟩ fun i a8 w8 hi8 hI => ?_
  obtain ⟨k, lb, cs5, k5, hL5, hsz5, hk, z8, s8⟩ := hI
  refine wp_seq ?_
  refine flowC mixed (s8.keep (sc 0 rfl (sc 5 rfl (sc 19 rfl (sc 20 rfl (sc 21 rfl sn)))))) (by kernel_rfl) (by kernel_rfl) (cc rfl (p_bin g0 (od rfl id) (od rfl id) b_lss_3) cn) fun a9 w9 b9 s9 => ?_
  have z9 := z8.trans (b9.mono z8.size)
  have k5 := k5.below b9 k5.lt
  have hL5 := (labL k).mono hL5 (.of b9) (fun _ _ h => h)
  refine wp_seq ?_
  refine s9.cond 22 rfl (fun h22 => ?_) (fun h22 => ?_)
  · -- true
    have hlt : i < l.length := by simpa using h22
    obtain ⟨x, ex⟩ : ∃ x, l[i]? = some x := ⟨_, List.getElem?_eq_getElem hlt⟩
    refine wp_skip ?_
    refine wp_seq ?_
    refine wp_block ?_
    refine wp_seq ?_
    refine flowC mixed (s9.keep (sc 0 rfl (sc 5 rfl (sc 19 rfl (sc 20 rfl (sc 21 rfl (sc 22 rfl sn))))))) (by kernel_rfl) (by kernel_rfl) (cc rfl (p_move g0 (od rfl id))
        (cc rfl (p_index ix_22 ex g0 (od rfl id) (od rfl id))
        (cc rfl (p_loadI ld_3 g0 (od rfl id))
        (cc rfl (p_assign g0 (od rfl id))
        (cc rfl (p_assign g0 (od rfl id)) cn))))) fun a10 w10 b10 s10 => ?_
    have z10 := z9.trans (b10.mono z9.size)
    have k5 := k5.below b10 k5.lt
    have hL5 := (labL k).mono hL5 (.of b10) (fun _ _ h => h)
    refine wp_seq ?_
    refine flowC mixed (s10.keep (sc 0 rfl (sc 5 rfl (sc 6 rfl (sc 7 rfl (sc 19 rfl (sc 20 rfl (sc 21 rfl (sc 22 rfl (sc 23 rfl (sc 24 rfl (sc 25 rfl sn)))))))))))) (by kernel_rfl) (by kernel_rfl) (cc rfl (p_move g0 (od rfl id))
        (cc rfl (p_bin g0 (od rfl id) (oc _) b_lss_3) cn)) fun a11 w11 b11 s11 => ?_
    have z11 := z10.trans (b11.mono z10.size)
    have k5 := k5.below b11 k5.lt
    have hL5 := (labL k).mono hL5 (.of b11) (fun _ _ h => h)
    refine s11.cond 27 rfl (fun h27 => ?_) (fun h27 => ?_)
    · -- true
      have hi8 : i < 8 := by have := of_decide_eq_true h27; (try dsimp only at this); omega
      refine wp_region_lit ?_
      refine with_st (s11.keep (sc 0 rfl (sc 5 rfl (sc 6 rfl (sc 7 rfl (sc 19 rfl (sc 20 rfl (sc 21 rfl sn)))))))) fun s11 => ?_
      show wpList _ _ _ (_ :: _) _ _
      refine ldst_on s11 rfl rfl (by decide) rfl (s11.get 5 rfl) k5 hL5 Try.underlying34 ur_34 sz_34 fun a12 s12 => ?_
      have z12 := z11
      refine chainK 8 (cc rfl (p_move g0 (od rfl id))
          (cc rfl (p_bin g0 (od rfl id) (oc _) b_add_3)
          (cc rfl (p_cvE (cat_of hi8) g0 (od rfl id) cv_3_85)
          (cc rfl (p_move g0 (od rfl id))
          (cc rfl (p_bin g0 (od rfl id) (oc _) (b_rem_3 (by decide)))
          (cc rfl (p_bin g0 (od rfl id) (oc _) b_add_3)
          (cc rfl (p_bin g0 (od rfl id) (oc _) (b_rem_3 (by decide)))
          (cc rfl (p_call 29 g0 (ox (od rfl id) (ox (od rfl id) (ox (od rfl id) ox0))) (fun _ _ => by kernel_rfl) (f50 (m := k) (by omega) (by omega))) cn)))))))) (by kernel_rfl) s12 fun a13 w13 b13 s13 => ?_
      have z13 := z12.trans (b13.mono z12.size)
      have k5 := k5.below b13 k5.lt
      have hL5 := (labL k).mono hL5 (.of b13) (fun _ _ h => h)
      show wpList _ _ _ (_ :: _) _ _
      refine store_U (L := labL (k + 1)) 5 36 s13 rfl rfl rfl rfl rfl k5 hsz5 sz_34 (fun _ => rfl) nul fun cs5 a14 w14 k5 hsz5 hL5 G5 s14 => ?_
      have z14 := z13.grown G5 z13.size (fun k e => by cases e; exact hw5)
      refine wpList_done ?_
      refine flowT (s14.keep (sc 0 rfl (sc 5 rfl (sc 6 rfl (sc 7 rfl (sc 19 rfl (sc 20 rfl (sc 21 rfl (sc 28 rfl (sc 29 rfl (sc 30 rfl (sc 31 rfl (sc 32 rfl (sc 33 rfl (sc 34 rfl (sc 35 rfl (sc 36 rfl sn))))))))))))))))) (by kernel_rfl) (cc rfl (p_bin g0 (od rfl id) (oc _) (inc_3 (by omega)))
          (cc rfl (p_move g0 (od rfl id)) cn)) fun a15 w15 b15 s15 => ?_
      have z15 := z14.trans (b15.mono z14.size)
      have k5 := k5.below b15 k5.lt
      have hL5 := (labL (k + 1)).mono hL5 (.of b15) (fun _ _ h => h)
      exact ⟨hlt, _, _, _, k5, hL5, hsz5, ⟨by omega, by omega⟩, z15, s15.to _ ⟨rfl, rfl, rfl, rfl, rfl, True.intro⟩⟩
    · -- false
      refine wp_skip ?_
      refine flowT (s11.keep (sc 0 rfl (sc 5 rfl (sc 6 rfl (sc 7 rfl (sc 19 rfl (sc 20 rfl (sc 21 rfl (sc 22 rfl (sc 23 rfl (sc 24 rfl (sc 25 rfl (sc 26 rfl (sc 27 rfl sn)))))))))))))) (by kernel_rfl) (cc rfl (p_bin g0 (od rfl id) (oc _) (inc_3 (by omega)))
          (cc rfl (p_move g0 (od rfl id)) cn)) fun a16 w16 b16 s16 => ?_
      have z16 := z11.trans (b16.mono z11.size)
      have k5 := k5.below b16 k5.lt
      have hL5 := (labL k).mono hL5 (.of b16) (fun _ _ h => h)
      exact ⟨hlt, _, _, _, k5, hL5, hsz5, ⟨by omega, by omega⟩, z16, s16.to _ ⟨rfl, rfl, rfl, rfl, rfl, True.intro⟩⟩
  · -- false
    have s9 := s9.less (F' := noF) (fun _ h => h.elim)
    have hL60 := labL_more hL5 (Nat.le_trans hk.1 (show 8 ≤ 60 by decide))
    have s9 := s9.more 5 (y := .at (labL 60) lb) (at_blkL k5 hL60 (s9.get 5 rfl))
    refine wp_exit ?_
    refine wp_seq ?_
    refine flowC mixed (s9.keep (sc 0 rfl (sc 5 rfl (sc 19 rfl (sc 20 rfl (sc 21 rfl sn)))))) (by kernel_rfl) (by kernel_rfl) (cc rfl (p_move g0 (od rfl id))
        (cc rfl (p_load Try.underlying34 ur_34 sz_34 g0 (od rfl id))
        (cc rfl (p_bd48L g0 (od rfl id) (od rfl id))
        (cc rfl (p_box bx_48 g0 (od rfl id))
        (cc rfl (p_assign g0 (od rfl id)) cn))))) fun a17 w17 b17 s17 => ?_
    have z17 := z9.trans (b17.mono z9.size)
    refine wp_seq ?_
    refine wp_region_lit ?_
    refine with_st (s17.keep (sc 0 rfl (sc 5 rfl (sc 8 rfl sn)))) fun s17 => ?_
    refine chainK 1 (cc rfl (p_load Try.underlying34 ur_34 sz_34 g0 (od rfl id)) cn) (by kernel_rfl) s17 fun a18 w18 b18 s18 => ?_
    have z18 := z17.trans (b18.mono z17.size)
    show wpList _ _ _ (_ :: _) _ _
    refine alloc_U (u := 34) (z := #[.int .i64 0, .slice none 0 0]) s18 nu34 rfl (by decide) rfl (fun ev w => al_34 ev w) fun g9 a19 w19 k9 hg9 b19 s19 => ?_
    have hw9 := Nat.le_trans z18.size hg9
    have z19 := z18.trans (b19.mono z18.size)
    show wpList _ _ _ (_ :: _) _ _
    refine store_U (L := labL 60) 9 42 s19 rfl rfl rfl rfl rfl k9 rfl sz_34 (fun _ => .inr rfl) nul fun cs9 a20 w20 k9 hsz9 hL9 G9 s20 => ?_
    have z20 := z19.grown G9 z19.size (fun k e => by cases e; exact hw9)
    have s20 := s20.less (F' := AtB g9) (fun _ h => .inr h)
    have hL9 := (labL 60).mono hL9 (.refl _ _) (F' := AtB g9) (fun _ _ h => .inr h)
    refine wpList_done ?_
    refine wp_seq ?_
    refine wp_seq ?_
    refine flowC mixed (s20.keep (sc 0 rfl (sc 5 rfl (sc 8 rfl (sc 9 rfl sn))))) (by kernel_rfl) (by kernel_rfl) (cc rfl (p_move g0 (od rfl id))
        (cc rfl (p_bin g0 (od rfl id) (oc _) b_eql_3)
        (cc rfl (p_move g0 (od rfl id))
        (cc rfl (p_move (g1 rfl rfl) (od rfl (fun _ => rfl)))
        (cc rfl (p_bin (g1 rfl rfl) (od rfl id) (oc _) b_eql_3)
        (cc rfl (p_or g0 (od rfl id) (od rfl id)) cn)))))) fun a21 w21 b21 s21 => ?_
    have z21 := z20.trans (b21.mono z20.size)
    have k9 := k9.below b21 k9.lt
    have hL9 := (labL 60).mono hL9 (.of b21) (fun _ _ h => h)
    refine s21.cond 48 rfl (fun h48 => ?_) (fun h48 => ?_)
    · -- true
      have kk : kd = 3 ∨ kd = 5 := by simpa using h48
      have ek : lookK (kd, lb) = restL lb := if_pos kk
      refine wp_region_lit ?_
      refine with_st (s21.keep (sc 0 rfl (sc 5 rfl (sc 8 rfl (sc 9 rfl sn))))) fun s21 => ?_
      refine chainK 2 (cc rfl (p_load Try.underlying34 ur_34 sz_34 g0 (od rfl id))
          (cc rfl (p_call 30 g0 (ox (od rfl id) ox0) (fun _ _ => by kernel_rfl) (f63 (m := 60) (by decide))) cn)) (by kernel_rfl) s21 fun a22 w22 b22 s22 => ?_
      have z22 := z21.trans (b22.mono z21.size)
      have k9 := k9.below b22 k9.lt
      have hL9 := (labL 60).mono hL9 (.of b22) (fun _ _ h => h)
      show wpList _ _ _ (_ :: _) _ _
      refine store_U (L := labL 120) 9 50 s22 rfl rfl rfl rfl rfl k9 hsz9 sz_34 (fun _ => rfl) nul fun cs9 a23 w23 k9 hsz9 hL9 G9 s23 => ?_
      have z23 := z22.grown G9 z22.size (fun k e => by cases e; exact hw9)
      refine wpList_done ?_
      refine wp_seq ?_
      refine flowC mixed (s23.keep (sc 0 rfl (sc 5 rfl (sc 8 rfl (sc 9 rfl sn))))) (by kernel_rfl) (by kernel_rfl) (cc rfl (p_assign g0 (oc _)) cn) fun a24 w24 b24 s24 => ?_
      have z24 := z23.trans (b24.mono z23.size)
      have k9 := k9.below b24 k9.lt
      have hL9 := (labL 120).mono hL9 (.of b24) (fun _ _ h => h)
      refine wp_seq ?_
      refine wp_seq ?_
      refine flowC mixed (s24.keep (sc 0 rfl (sc 5 rfl (sc 8 rfl (sc 9 rfl (sc 10 rfl sn)))))) (by kernel_rfl) (by kernel_rfl) (cc rfl (p_move g0 (od rfl id))
          (cc rfl (p_bin g0 (od rfl id) (oc _) b_eql_3) cn)) fun a25 w25 b25 s25 => ?_
      have z25 := z24.trans (b25.mono z24.size)
      have k9 := k9.below b25 k9.lt
      have hL9 := (labL 120).mono hL9 (.of b25) (fun _ _ h => h)
      refine s25.cond 52 rfl (fun h52 => ?_) (fun h52 => ?_)
      · -- true
        have k3 : kd = 3 := by simpa using h52
        have hc : costK kd = 9 := by unfold costK; rw [if_neg (by omega), if_pos k3]
        refine flowT (s25.keep (sc 0 rfl (sc 5 rfl (sc 8 rfl (sc 9 rfl (sc 10 rfl sn)))))) (by kernel_rfl) (cc rfl (p_move g0 (od rfl id))
            (cc rfl (p_bin g0 (od rfl id) (oc _) b_add_2)
            (cc rfl (p_assign g0 (od rfl id)) cn))) fun a26 w26 b26 s26 => ?_
        have z26 := z25.trans (b26.mono z25.size)
        have k9 := k9.below b26 k9.lt
        have hL9 := (labL 120).mono hL9 (.of b26) (fun _ _ h => h)
        have s26 := s26.more 10 (y := .int .i64 9) (int_as (s26.get 10 rfl) (by decide))
        refine wp_seq ?_
        have s26 := s26.less (F' := noF) (fun _ h => h.elim)
        have s26 := s26.more 9 (y := .at (labL 120) (lookK (kd, lb))) (by rw [ek]; exact at_blkL k9 hL9 (s26.get 9 rfl))
        refine flowC mixed (s26.keep (sc 0 rfl (sc 5 rfl (sc 8 rfl (sc 9 rfl (sc 10 rfl sn)))))) (by kernel_rfl) (by kernel_rfl) (cc rfl (p_move g0 (od rfl id))
            (cc rfl (p_call 32 g0 (ox (od rfl id) ox0) (fun _ _ => by kernel_rfl) f32)
            (cc rfl (p_load Try.underlying34 ur_34 sz_34 g0 (od rfl id))
            (cc rfl (p_call 31 g0 (ox (od rfl id) (ox (od rfl id) ox0)) (fun _ _ => by kernel_rfl) (f52 (m := 120) (by decide)))
            (cc rfl (p_move g0 (od rfl id))
            (cc rfl (p_move (g1 rfl rfl) (od rfl (fun _ => rfl)))
            (cc rfl (p_call 33 (g1 rfl rfl) (ox (od rfl id) ox0) (fun _ _ => by kernel_rfl) f33)
            (cc rfl (p_move (g1 rfl rfl) (od rfl (fun _ => rfl)))
            (cc rfl (p_bin (g1 rfl rfl) (od rfl id) (od rfl id) b_eql_2)
            (cc rfl (p_and g0 (od rfl id) (od rfl id))
            (cc rfl (p_assign g0 (od rfl id)) cn))))))))))) fun a27 w27 b27 s27 => ?_
        have z27 := z26.trans (b27.mono z26.size)
        have s27 := s27.more 4 (y := .bool true) (bool_as (s27.get 4 rfl) (by rw [same_refl, hc]; rfl))
        exact wp_ret (ret_law (fn := Try.f10) s27 4 rfl rfl rfl z27)
      · -- false
        have k3 : ¬ kd = 3 := by simpa using h52
        have hc : costK kd = 1 := cost_no k3
        refine wp_skip ?_
        refine wp_seq ?_
        have s25 := s25.less (F' := noF) (fun _ h => h.elim)
        have s25 := s25.more 9 (y := .at (labL 120) (lookK (kd, lb))) (by rw [ek]; exact at_blkL k9 hL9 (s25.get 9 rfl))
        refine flowC mixed (s25.keep (sc 0 rfl (sc 5 rfl (sc 8 rfl (sc 9 rfl (sc 10 rfl sn)))))) (by kernel_rfl) (by kernel_rfl) (cc rfl (p_move g0 (od rfl id))
            (cc rfl (p_call 32 g0 (ox (od rfl id) ox0) (fun _ _ => by kernel_rfl) f32)
            (cc rfl (p_load Try.underlying34 ur_34 sz_34 g0 (od rfl id))
            (cc rfl (p_call 31 g0 (ox (od rfl id) (ox (od rfl id) ox0)) (fun _ _ => by kernel_rfl) (f52 (m := 120) (by decide)))
            (cc rfl (p_move g0 (od rfl id))
            (cc rfl (p_move (g1 rfl rfl) (od rfl (fun _ => rfl)))
            (cc rfl (p_call 33 (g1 rfl rfl) (ox (od rfl id) ox0) (fun _ _ => by kernel_rfl) f33)
            (cc rfl (p_move (g1 rfl rfl) (od rfl (fun _ => rfl)))
            (cc rfl (p_bin (g1 rfl rfl) (od rfl id) (od rfl id) b_eql_2)
            (cc rfl (p_and g0 (od rfl id) (od rfl id))
            (cc rfl (p_assign g0 (od rfl id)) cn))))))))))) fun a28 w28 b28 s28 => ?_
        have z28 := z25.trans (b28.mono z25.size)
        have s28 := s28.more 4 (y := .bool true) (bool_as (s28.get 4 rfl) (by rw [same_refl, hc]; rfl))
        exact wp_ret (ret_law (fn := Try.f10) s28 4 rfl rfl rfl z28)
    · -- false
      have kk : ¬ (kd = 3 ∨ kd = 5) := by simpa using h48
      have ek : lookK (kd, lb) = lb := if_neg kk
      refine wp_skip ?_
      refine wp_seq ?_
      refine flowC mixed (s21.keep (sc 0 rfl (sc 5 rfl (sc 8 rfl (sc 9 rfl sn))))) (by kernel_rfl) (by kernel_rfl) (cc rfl (p_assign g0 (oc _)) cn) fun a29 w29 b29 s29 => ?_
      have z29 := z21.trans (b29.mono z21.size)
      have k9 := k9.below b29 k9.lt
      have hL9 := (labL 60).mono hL9 (.of b29) (fun _ _ h => h)
      refine wp_seq ?_
      refine wp_seq ?_
      refine flowC mixed (s29.keep (sc 0 rfl (sc 5 rfl (sc 8 rfl (sc 9 rfl (sc 10 rfl sn)))))) (by kernel_rfl) (by kernel_rfl) (cc rfl (p_move g0 (od rfl id))
          (cc rfl (p_bin g0 (od rfl id) (oc _) b_eql_3) cn)) fun a30 w30 b30 s30 => ?_
      have z30 := z29.trans (b30.mono z29.size)
      have k9 := k9.below b30 k9.lt
      have hL9 := (labL 60).mono hL9 (.of b30) (fun _ _ h => h)
      refine s30.cond 52 rfl (fun h52 => ?_) (fun h52 => ?_)
      · -- true
        have k3 : kd = 3 := by simpa using h52
        have hc : costK kd = 9 := by unfold costK; rw [if_neg (by omega), if_pos k3]
        refine flowT (s30.keep (sc 0 rfl (sc 5 rfl (sc 8 rfl (sc 9 rfl (sc 10 rfl sn)))))) (by kernel_rfl) (cc rfl (p_move g0 (od rfl id))
            (cc rfl (p_bin g0 (od rfl id) (oc _) b_add_2)
            (cc rfl (p_assign g0 (od rfl id)) cn))) fun a31 w31 b31 s31 => ?_
        have z31 := z30.trans (b31.mono z30.size)
        have k9 := k9.below b31 k9.lt
        have hL9 := (labL 60).mono hL9 (.of b31) (fun _ _ h => h)
        have s31 := s31.more 10 (y := .int .i64 9) (int_as (s31.get 10 rfl) (by decide))
        refine wp_seq ?_
        have s31 := s31.less (F' := noF) (fun _ h => h.elim)
        have s31 := s31.more 9 (y := .at (labL 120) (lookK (kd, lb))) (by rw [ek]; exact at_blkL k9 (labL_more hL9 (by decide)) (s31.get 9 rfl))
        refine flowC mixed (s31.keep (sc 0 rfl (sc 5 rfl (sc 8 rfl (sc 9 rfl (sc 10 rfl sn)))))) (by kernel_rfl) (by kernel_rfl) (cc rfl (p_move g0 (od rfl id))
            (cc rfl (p_call 32 g0 (ox (od rfl id) ox0) (fun _ _ => by kernel_rfl) f32)
            (cc rfl (p_load Try.underlying34 ur_34 sz_34 g0 (od rfl id))
            (cc rfl (p_call 31 g0 (ox (od rfl id) (ox (od rfl id) ox0)) (fun _ _ => by kernel_rfl) (f52 (m := 120) (by decide)))
            (cc rfl (p_move g0 (od rfl id))
            (cc rfl (p_move (g1 rfl rfl) (od rfl (fun _ => rfl)))
            (cc rfl (p_call 33 (g1 rfl rfl) (ox (od rfl id) ox0) (fun _ _ => by kernel_rfl) f33)
            (cc rfl (p_move (g1 rfl rfl) (od rfl (fun _ => rfl)))
            (cc rfl (p_bin (g1 rfl rfl) (od rfl id) (od rfl id) b_eql_2)
            (cc rfl (p_and g0 (od rfl id) (od rfl id))
            (cc rfl (p_assign g0 (od rfl id)) cn))))))))))) fun a32 w32 b32 s32 => ?_
        have z32 := z31.trans (b32.mono z31.size)
        have s32 := s32.more 4 (y := .bool true) (bool_as (s32.get 4 rfl) (by rw [same_refl, hc]; rfl))
        exact wp_ret (ret_law (fn := Try.f10) s32 4 rfl rfl rfl z32)
      · -- false
        have k3 : ¬ kd = 3 := by simpa using h52
        have hc : costK kd = 1 := cost_no k3
        refine wp_skip ?_
        refine wp_seq ?_
        have s30 := s30.less (F' := noF) (fun _ h => h.elim)
        have s30 := s30.more 9 (y := .at (labL 120) (lookK (kd, lb))) (by rw [ek]; exact at_blkL k9 (labL_more hL9 (by decide)) (s30.get 9 rfl))
        refine flowC mixed (s30.keep (sc 0 rfl (sc 5 rfl (sc 8 rfl (sc 9 rfl (sc 10 rfl sn)))))) (by kernel_rfl) (by kernel_rfl) (cc rfl (p_move g0 (od rfl id))
            (cc rfl (p_call 32 g0 (ox (od rfl id) ox0) (fun _ _ => by kernel_rfl) f32)
            (cc rfl (p_load Try.underlying34 ur_34 sz_34 g0 (od rfl id))
            (cc rfl (p_call 31 g0 (ox (od rfl id) (ox (od rfl id) ox0)) (fun _ _ => by kernel_rfl) (f52 (m := 120) (by decide)))
            (cc rfl (p_move g0 (od rfl id))
            (cc rfl (p_move (g1 rfl rfl) (od rfl (fun _ => rfl)))
            (cc rfl (p_call 33 (g1 rfl rfl) (ox (od rfl id) ox0) (fun _ _ => by kernel_rfl) f33)
            (cc rfl (p_move (g1 rfl rfl) (od rfl (fun _ => rfl)))
            (cc rfl (p_bin (g1 rfl rfl) (od rfl id) (od rfl id) b_eql_2)
            (cc rfl (p_and g0 (od rfl id) (od rfl id))
            (cc rfl (p_assign g0 (od rfl id)) cn))))))))))) fun a33 w33 b33 s33 => ?_
        have z33 := z30.trans (b33.mono z30.size)
        have s33 := s33.more 4 (y := .bool true) (bool_as (s33.get 4 rfl) (by rw [same_refl, hc]; rfl))
        exact wp_ret (ret_law (fn := Try.f10) s33 4 rfl rfl rfl z33)

set_option maxRecDepth 100000 in
theorem tableLooks_lifted (os : Os) (started : os.Started) (H : Type) (enc : TypeId × Value → H) :
    ReturnsInHanded {} Try.checked os 10 .any (Rows.tableLooksSpec.pre6 enc Try.prog Try.f10 Rows.tableLooksRow.domain false) (Rows.tableLooksSpec.post enc Try.prog Try.f10 false true false false) := by
  refine lifted_of (C := Try.checked) laidOut own started (by kernel_rfl) Try.func10 rfl Try.underlying4 (by kernel_rfl) rfl
    (fun ds hds => by match ds, hds with | [_, _], _ => rfl)
    (ChangeSpec.witness6 (enc := enc) (C := Try.checked) false ⟨#[], #[.int .i64 0, .slice none 0 0], []⟩ 8 (by kernel_rfl) (by kernel_rfl) (by kernel_rfl) (by kernel_rfl)) ?_
  intro w base args ds ps hval0 hA0 hlt
  have hval : ∀ (j : Nat) t v, Try.f10.params[j]? = some t → args[j]? = some v → Value.okWide Try.prog w .any base t v := hval0
  have hA : DataW.TrodAll enc Try.prog w 0 (fun _ => true) true Try.f10.params.toList args.toList ds ps := hA0
  rw [Try.params10] at hA hval
  obtain ⟨v0, vs0, d0, ds0, p0, q0, hargs, rfl, rfl, h0, r0⟩ := trodAll_cons hA
  obtain ⟨v1, vs1, d1, ds1, p1, q1, rfl, rfl, rfl, h1, r1⟩ := trodAll_cons r0
  obtain ⟨rfl, rfl, rfl⟩ := trodAll_nil r1
  obtain rfl : args = #[v0, v1] := by cases args; simp_all
  obtain ⟨x0, rfl, rfl, rfl, o0⟩ := open_int Try.underlying3 (hval 0 3 v0 rfl rfl) h0
  obtain ⟨x1, o1, s1⟩ := open_sl Try.underlying22 opens_i22 (hval 1 22 v1 rfl rfl) h1 (fun x hx => hlt x (List.mem_append_right _ (List.mem_append_left _ hx)))
  exact tableLooks_walk w _ v1 x0 x1 rfl s1 o1

set_option maxRecDepth 100000 in
theorem tableLooks_facts : joinedFacts Try.pinned.checked.prog 10 Try.f10 Rows.tableLooksSpec Rows.tableLooksRow = true := by
  show joinedFacts Try.prog 10 Try.f10 Rows.tableLooksSpec Rows.tableLooksRow = true
  unfold joinedFacts
  rw [mayEnter_ok, liftsFinal_ok, make_ok]
  kernel_rfl
theorem tableLooks_holds : Rows.TableLooksSaid :=
  OpenClaim.holds_of_wide 10 Try.f10 rfl rfl rfl rfl rfl rfl rfl ⟨rfl, rfl, rfl, rfl, rfl⟩ rfl rfl rfl rfl rfl (by kernel_rfl) Try.func10 tableLooks_facts
    (of_decide_eq_true (by kernel_rfl)) (by unfold Func.isWrapper; rw [if_neg (of_decide_eq_false (by kernel_rfl))]; exact ⟨rfl, rfl⟩)
    (fun os started H enc _ => tableLooks_lifted os started H enc)
#print axioms tableLooks_holds

end Go.Proofs.Ytbeeiecbbmiojaa.Y.Lb
