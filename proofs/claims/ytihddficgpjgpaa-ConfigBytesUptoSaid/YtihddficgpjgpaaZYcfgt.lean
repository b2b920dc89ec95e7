/- Ycfgt: the law's own words for configurations that may be -/
import Derived.Test.YtihddficgpjgpaaZMCf
namespace Go.Proofs.Ytihddficgpjgpaa.Y
open Go.RowKit Go.ChangeShapes Go.WideShapes Go.ChangeAt
section
variable {U : Prop} {P : Program} {Q : Exit → Act → World → Prop} {N : Nat} {e : Env} {F : Cell → Prop} {a : Act} {w : World} {ops : Array Oper} {rest : List Oper} {o : Oper}
theorem nou_blk {g : Nat} {T : TypeId} {cs : Array Value} (hB : Blk w g T cs) (h : ∀ (i : Nat) (x : Int), cs[i]? ≠ some (.int .u32 x)) (o : Nat) (x : Int) : w.cell? ⟨g, o, none⟩ ≠ some (.int .u32 x) := by rw [hB.cell]; exact h o x
theorem alloc_U {d : Nat} {u : TypeId} {z : Array Value} (h : StE U N e F a w) (hz : U → ∀ (i : Nat) (x : Int), z[i]? ≠ some (.int .u32 x)) (hd : o.dst = some d) (hdN : decide (d < N) = true) (hgd : o.guard = none) (hr : ∀ (ev : Operand → Value) (w : World), (execOp ev o).run P w = .ok (.value (.pointer (some ⟨w.heap.size, 0, none⟩))) (w.alloc (.cells z u)))
    (hQ : ∀ g a' w', Blk w' g u z → w.heap.size ≤ g → Below w.heap.size w w' → StE U N ((d, true, .val (.pointer (some ⟨g, 0, none⟩))) :: e) (And2 F (AtB g)) a' w' → wpList P ops Q rest a' w') : wpList P ops Q (o :: rest) a w := by
  have hb : Below w.heap.size w (w.alloc (.cells z u)) := (Below.refl _ _).alloc (Nat.le_refl _) _
  have hB := Blk.new w u z
  refine wpList_plain hgd fun K hK => ?_
  unfold Oper.wp
  rw [hr]
  refine hK _ _ ?_
  rw [hd]
  exact hQ _ _ _ hB (Nat.le_refl _) hb (h.freshV hb (Nat.le_refl _) hB.lt (fun u => nou_blk hB (hz u)) (by simpa using hdN))
theorem store_U {α : Type} {L : Lay α} {x : α} {gq : Nat} {T T' : TypeId} {z : Array Value} (t s : Nat) (h : StE U N e F a w) (h1 : o.op = .store T (.tmp t) (.tmp s)) (h2 : o.dst = none) (h3 : o.guard = none) (hx : e.lookup s = some (true, .st L x))
    (hg : e.lookup t = some (true, .val (.pointer (some ⟨gq, 0, none⟩)))) (hB : Blk w gq T' z) (hz : z.size = L.n) (h4 : (P.info? T).map (·.size) = some L.n) (hF : ∀ o, F (gq, o)) (hn : U → ∀ {w : World} {F : Cell → Prop} {cs : List Value}, L.on w F cs x → ∀ y : Int, Value.int .u32 y ∉ cs)
    (hQ : ∀ cs a' w', Blk w' gq T' cs → cs.size = L.n → L.on w' F cs.toList x → w.grownBy w' (some gq) → StE U N e F a' w' → wpList P ops Q rest a' w') : wpList P ops Q (o :: rest) a w := by
  obtain ⟨cs, e1, hL⟩ := h.get s hx
  have hl := L.len hL
  refine wpList_store_rowTo h3 T (.tmp t) (.tmp s) h1 h2 gq cs.toArray (h.get t hg) e1 T' z hB (by rw [h4]; simp [hl]) (by simp [hz, hl]) (all_arr (L.one hL)) ?_
  have hB' := setRow_heap w gq z cs.toArray T' (0, 0) hB
  have G : w.grownBy (w.setRow gq cs.toArray) (some gq) := ⟨rfl, rfl, rfl, by rw [size_setRow]; exact Nat.le_refl _, fun k _ hk => setRow_other w gq k cs.toArray (fun e => hk (by rw [e]))⟩
  exact hQ cs.toArray _ _ hB' (by simp [hl]) (by simpa using L.mono hL (keeps_grown G hF) fun _ _ h => h) G (h.wroteB G hF fun u => nou_blk hB' fun i y hi => hn u hL y (List.mem_of_getElem? (by simpa using hi)))
end
theorem labd_on {d : Int} {w : World} {F : Cell → Prop} : (Sym.st (labL 12) ⟨d, []⟩).on w F (.agg #[.int .i64 d, .slice none 0 0]) := ⟨[.int .i64 d, .slice none 0 0], rfl, ⟨[_], [_], rfl, rfl, none, 0, rfl, fun h => absurd h (by simp), Nat.le_refl _⟩, ⟨⟨True.intro, fun p hp => by cases hp⟩, by simp⟩⟩
def topB (c : Cf) : Bool := (((((((decide (1 ≤ c.co) && decide (c.co ≤ 4)) && decide (1 ≤ c.fr)) && decide (c.fr ≤ 4096)) && decide (0 ≤ c.nm)) && decide (c.nm ≤ 4194302)) && decide ((c.obs.length : Int) ≤ 64)) && decide (1 ≤ (c.sl.length : Int))) && decide ((c.sl.length : Int) ≤ 8)
def slotO (n : Nat) (b : Bool) (s : Int × Int) : Bool := ((b && decide (1 ≤ s.2)) && decide (s.2 ≤ 16)) && decide (s.1 ≤ IntKind.u64.wrap (n : Int))
def slTo (c : Cf) : Nat → Bool
  | 0 => topB c
  | i + 1 => match c.sl[i]? with
    | some s => slotO c.obs.length (slTo c i) s
    | none => slTo c i
theorem sl_succ {c : Cf} {i : Nat} {s : Int × Int} (h : c.sl[i]? = some s) : slTo c (i + 1) = slotO c.obs.length (slTo c i) s := by simp only [slTo, h]
/-- An object's label, by its home. -/
def upO (c : Cf) (o : Ob) : Bool :=
  if 0 < o.par then (match c.obs[(o.par - 1).toNat]? with
    | some p => ((p.k == 1) && rightB o.lab) && leqB p.lab (restL o.lab)
    | none => false)
  else (true && rightB o.lab) && leqB ⟨2, []⟩ (restL o.lab)
theorem up_at {c : Cf} {o p : Ob} {j : Nat} (hj : o.par = (j : Int) + 1) (ej : c.obs[j]? = some p) : upO c o = (((p.k == 1) && rightB o.lab) && leqB p.lab (restL o.lab)) := by
  unfold upO
  rw [if_pos (by omega), show (o.par - 1).toNat = j by omega, ej]
theorem up_no {c : Cf} {o : Ob} (h : ¬ 0 < o.par) : upO c o = ((true && rightB o.lab) && leqB ⟨2, []⟩ (restL o.lab)) := by unfold upO; rw [if_neg h]
def kindO (c : Cf) (o : Ob) (u : Bool) : Bool :=
  if (o.k == 1) = true then ((((u && plainB o.lab) && decide (0 ≤ o.pg)) && decide (o.pg ≤ 4096)) && decide (0 ≤ o.nm)) && decide (o.nm ≤ 4194304)
  else if (o.k == 2) = true then (((u && plainB o.lab) && decide (0 ≤ o.pg)) && decide (o.pg ≤ 16)) && decide ((o.dat.length : Int) ≤ IntKind.i64.wrap (64 * o.pg))
  else if (o.k == 4) = true then (u && plainB o.lab) && refMaps c.obs.length o.mps
  else if (o.k == 3) = true then (((((u && rightB o.clr) && leqB o.lab o.clr) && decide (0 ≤ o.pc)) && decide (o.pc < 262144)) && decide (0 ≤ o.sp)) && decide (o.sp ≤ (c.obs.length : Int))
  else if (o.k == 5) = true then (((((u && rightB o.clr) && leqB o.lab o.clr) && decide (0 ≤ o.pc)) && decide (o.pc < 262144)) && decide (0 ≤ o.sp)) && decide (o.sp ≤ (c.obs.length : Int))
  else if (o.k == 6) = true then u && plainB o.lab
  else false
def obTo (c : Cf) : Nat → Bool
  | 0 => slTo c c.sl.length
  | i + 1 => match c.obs[i]? with
    | some o => if ((obTo c i && decide (0 ≤ o.par)) && decide (o.par ≤ (i : Int))) = true then kindO c o (upO c o) else false
    | none => obTo c i
theorem ob_go {c : Cf} {i : Nat} {o : Ob} (h : c.obs[i]? = some o) (hb : ((obTo c i && decide (0 ≤ o.par)) && decide (o.par ≤ (i : Int))) = true) : obTo c (i + 1) = kindO c o (upO c o) := by simp only [obTo, h, hb, if_true]
theorem ob_stop {c : Cf} {i : Nat} {o : Ob} (h : c.obs[i]? = some o) (hb : ((obTo c i && decide (0 ≤ o.par)) && decide (o.par ≤ (i : Int))) = false) : obTo c (i + 1) = false := by simp only [obTo, h, hb]; rfl
theorem ob_false {c : Cf} {i : Nat} (h : obTo c i = false) : ∀ {k : Nat}, i ≤ k → obTo c k = false
  | 0, hk => by rw [← Nat.le_zero.1 hk]; exact h
  | k + 1, hk => by
    rcases Nat.lt_or_ge i (k + 1) with h1 | h1
    · have h2 := ob_false h (Nat.le_of_lt_succ h1)
      rw [obTo]
      split
      · rw [h2]; rfl
      · exact h2
    · rw [← Nat.le_antisymm hk h1]; exact h
/-- May it be a configuration, in the law's words? -/
def rightD (c : Cf) : Bool := obTo c c.obs.length
set_option maxHeartbeats 3200000 in
set_option maxRecDepth 100000 in
theorem f47 {c : Cf} (hsl : c.sl.length ≤ 100000) (hL : c.obs.length ≤ 100000) (hms : ∀ o ∈ c.obs, o.mps.length ≤ maxLen) : Fn True Try.prog 47 [.st cfL c] (.bool (rightD c)) := fn1 fun w F v0 h0 hF => by
  go_enter Try.func47, Try.ntmps47
  refine wp_seq ?_
  refine flowC mixed (st0 (U := True) (N := 251) (e := [(0, true, .st cfL c)]) (F := F) rfl rfl hF ⟨⟨rfl, h0⟩, True.intro⟩) (by kernel_rfl) (by kernel_rfl) (cc rfl (p_box bx_59 g0 (od rfl id))
      (cc rfl (p_assign g0 (oc _)) cn)) fun a1 w1 b1 s1 => ?_
  have z1 := b1
  refine wp_seq ?_
  refine flowC mixed (s1.keep (sc 1 rfl (sc 2 rfl sn))) (by kernel_rfl) (by kernel_rfl) (cc rfl (p_fieldAddr pt59_4 fa_59_4 g0 (od rfl id))
      (cc rfl (p_load1 rfl ld_57 g0 (od rfl id))
      (cc rfl (p_len ln_57 g0 (od rfl id))
      (cc rfl (p_assign g0 (od rfl id)) cn)))) fun a2 w2 b2 s2 => ?_
  have z2 := z1.trans (b2.mono z1.size)
  refine wp_seq ?_
  refine flowC mixed (s2.keep (sc 1 rfl (sc 2 rfl (sc 3 rfl sn)))) (by kernel_rfl) (by kernel_rfl) (cc rfl (p_fieldAddr pt59_0 fa_59_0 g0 (od rfl id))
      (cc rfl (p_loadI ld_3 g0 (od rfl id))
      (cc rfl (p_bin g0 (od rfl id) (oc _) b_geq_3)
      (cc rfl (p_move g0 (od rfl id))
      (cc rfl (p_fieldAddr pt59_0 fa_59_0 (g1 rfl rfl) (od rfl (fun _ => rfl)))
      (cc rfl (p_loadI ld_3 (g1 rfl rfl) (od rfl id))
      (cc rfl (p_bin (g1 rfl rfl) (od rfl id) (oc _) b_leq_3)
      (cc rfl (p_and g0 (od rfl id) (od rfl id))
      (cc rfl (p_move g0 (od rfl id))
      (cc rfl (p_fieldAddr pt59_1 fa_59_1 (g1 rfl rfl) (od rfl (fun _ => rfl)))
      (cc rfl (p_loadI ld_3 (g1 rfl rfl) (od rfl id))
      (cc rfl (p_bin (g1 rfl rfl) (od rfl id) (oc _) b_geq_3)
      (cc rfl (p_and g0 (od rfl id) (od rfl id))
      (cc rfl (p_move g0 (od rfl id))
      (cc rfl (p_fieldAddr pt59_1 fa_59_1 (g1 rfl rfl) (od rfl (fun _ => rfl)))
      (cc rfl (p_loadI ld_3 (g1 rfl rfl) (od rfl id))
      (cc rfl (p_bin (g1 rfl rfl) (od rfl id) (oc _) b_leq_3)
      (cc rfl (p_and g0 (od rfl id) (od rfl id))
      (cc rfl (p_move g0 (od rfl id))
      (cc rfl (p_fieldAddr pt59_2 fa_59_2 (g1 rfl rfl) (od rfl (fun _ => rfl)))
      (cc rfl (p_loadI ld_3 (g1 rfl rfl) (od rfl id))
      (cc rfl (p_bin (g1 rfl rfl) (od rfl id) (oc _) b_geq_3)
      (cc rfl (p_and g0 (od rfl id) (od rfl id))
      (cc rfl (p_move g0 (od rfl id))
      (cc rfl (p_fieldAddr pt59_2 fa_59_2 (g1 rfl rfl) (od rfl (fun _ => rfl)))
      (cc rfl (p_loadI ld_3 (g1 rfl rfl) (od rfl id))
      (cc rfl (p_bin (g1 rfl rfl) (od rfl id) (oc _) b_leq_3)
      (cc rfl (p_and g0 (od rfl id) (od rfl id))
      (cc rfl (p_move g0 (od rfl id))
      (cc rfl (p_move (g1 rfl rfl) (od rfl (fun _ => rfl)))
      (cc rfl (p_bin (g1 rfl rfl) (od rfl id) (oc _) b_leq_3)
      (cc rfl (p_and g0 (od rfl id) (od rfl id))
      (cc rfl (p_move g0 (od rfl id))
      (cc rfl (p_fieldAddr pt59_3 fa_59_3 (g1 rfl rfl) (od rfl (fun _ => rfl)))
      (cc rfl (p_load1 rfl ld_53 (g1 rfl rfl) (od rfl id))
      (cc rfl (p_len ln_53 (g1 rfl rfl) (od rfl id))
      (cc rfl (p_bin (g1 rfl rfl) (od rfl id) (oc _) b_geq_3)
      (cc rfl (p_and g0 (od rfl id) (od rfl id))
      (cc rfl (p_move g0 (od rfl id))
      (cc rfl (p_fieldAddr pt59_3 fa_59_3 (g1 rfl rfl) (od rfl (fun _ => rfl)))
      (cc rfl (p_load1 rfl ld_53 (g1 rfl rfl) (od rfl id))
      (cc rfl (p_len ln_53 (g1 rfl rfl) (od rfl id))
      (cc rfl (p_bin (g1 rfl rfl) (od rfl id) (oc _) b_leq_3)
      (cc rfl (p_and g0 (od rfl id) (od rfl id))
      (cc rfl (p_assign g0 (od rfl id)) cn))))))))))))))))))))))))))))))))))))))))))))) fun a3 w3 b3 s3 => ?_
  have z3 := z2.trans (b3.mono z2.size)
  refine wp_seq ?_
  refine wp_seq ?_
  refine flowC mixed (s3.keep (sc 1 rfl (sc 2 rfl (sc 3 rfl (sc 4 rfl sn))))) (by kernel_rfl) (by kernel_rfl) (cc rfl (p_fieldAddr pt59_3 fa_59_3 g0 (od rfl id))
      (cc rfl (p_load1 rfl ld_53 g0 (od rfl id))
      (cc rfl (p_len ln_53 g0 (od rfl id))
      (cc rfl (p_move g0 (oc _)) cn)))) fun a4 w4 b4 s4 => ?_
  have z4 := z3.trans (b4.mono z3.size)
  refine wp_block ?_
  refine wp_range c.sl.length 62 (fun i => [(4, true, .bool (slTo c i))]) (fun _ _ => True) (s4.keep (sc 62 rfl (sc 4 rfl (sc 1 rfl (sc 2 rfl (sc 3 rfl (sc 60 rfl (sc 61 rfl sn)))))))) z4 True.intro fun i a5 w5 hi1 s5 z5 x5 => ?_
  refine wp_seq ?_
  refine flowC mixed (s5.keep (sc 1 rfl (sc 2 rfl (sc 3 rfl (sc 4 rfl (sc 60 rfl (sc 61 rfl (sc 62 rfl sn)))))))) (by kernel_rfl) (by kernel_rfl) (cc rfl (p_bin g0 (od rfl id) (od rfl id) b_lss_3) cn) fun a6 w6 b6 s6 => ?_
  have z6 := z5.trans (b6.mono z5.size)
  refine wp_seq ?_
  refine s6.cond 63 rfl (fun h => ?_) (fun h => ?_)
  · -- true
    have hlt1 : i < c.sl.length := by simpa using h
    obtain ⟨ce, ece⟩ : ∃ x, c.sl[i]? = some x := ⟨_, List.getElem?_eq_getElem hlt1⟩
    refine wp_skip ?_
    refine wp_seq ?_
    refine wp_block ?_
    refine wp_seq ?_
    refine flowQ 3 mixed (s6.keep (sc 1 rfl (sc 2 rfl (sc 3 rfl (sc 4 rfl (sc 60 rfl (sc 61 rfl (sc 62 rfl (sc 63 rfl sn))))))))) (by kernel_rfl) (by kernel_rfl) (cc rfl (p_index ix_53 ece g0 (od rfl id) (od rfl id))
        (cc rfl (p_load u_64 ur_64 sz_64 g0 (od rfl id))
        (ca rfl (m_alloc al_64 nu64) cn))) (by kernel_rfl) (ss rfl rfl rfl rfl puts_st sz_64 rfl rfl ss0) fun a7 w7 b7 s7 => ?_
    have z7 := z6.trans (b7.mono z6.size)
    refine flowT (s7.keep (sc 1 rfl (sc 2 rfl (sc 3 rfl (sc 4 rfl (sc 6 rfl (sc 60 rfl (sc 61 rfl (sc 62 rfl (sc 63 rfl (sc 64 rfl (sc 65 rfl sn)))))))))))) (by kernel_rfl) (cc rfl (p_move g0 (od rfl id))
        (cc rfl (p_move g0 (od rfl id))
        (cc rfl (p_fieldAddr pt64_1 fa_64_1 (g1 rfl rfl) (od rfl (fun _ => rfl)))
        (cc rfl (p_loadI ld_3 (g1 rfl rfl) (od rfl id))
        (cc rfl (p_bin (g1 rfl rfl) (od rfl id) (oc _) b_geq_3)
        (cc rfl (p_and g0 (od rfl id) (od rfl id))
        (cc rfl (p_move g0 (od rfl id))
        (cc rfl (p_fieldAddr pt64_1 fa_64_1 (g1 rfl rfl) (od rfl (fun _ => rfl)))
        (cc rfl (p_loadI ld_3 (g1 rfl rfl) (od rfl id))
        (cc rfl (p_bin (g1 rfl rfl) (od rfl id) (oc _) b_leq_3)
        (cc rfl (p_and g0 (od rfl id) (od rfl id))
        (cc rfl (p_move g0 (od rfl id))
        (cc rfl (p_fieldAddr pt64_0 fa_64_0 (g1 rfl rfl) (od rfl (fun _ => rfl)))
        (cc rfl (p_loadI ld_23 (g1 rfl rfl) (od rfl id))
        (cc rfl (p_move (g1 rfl rfl) (od rfl (fun _ => rfl)))
        (cc rfl (p_conv (g1 rfl rfl) (od rfl id) cv_3_23)
        (cc rfl (p_bin (g1 rfl rfl) (od rfl id) (od rfl id) b_leq_23)
        (cc rfl (p_and g0 (od rfl id) (od rfl id))
        (cc rfl (p_assign g0 (od rfl id)) cn))))))))))))))))))) fun a8 w8 b8 s8 => ?_
    have z8 := z7.trans (b8.mono z7.size)
    have s8 := s8.more 4 (y := .bool (slTo c (i + 1))) (bool_as (s8.get 4 rfl) (sl_succ ece).symm)
    refine flowT (s8.keep (sc 1 rfl (sc 2 rfl (sc 3 rfl (sc 4 rfl (sc 6 rfl (sc 60 rfl (sc 61 rfl (sc 62 rfl (sc 63 rfl (sc 64 rfl (sc 65 rfl (sc 66 rfl (sc 67 rfl (sc 68 rfl (sc 69 rfl (sc 70 rfl (sc 71 rfl (sc 72 rfl (sc 73 rfl (sc 74 rfl (sc 75 rfl (sc 76 rfl (sc 77 rfl (sc 78 rfl (sc 79 rfl (sc 80 rfl (sc 81 rfl (sc 82 rfl (sc 83 rfl sn)))))))))))))))))))))))))))))) (by kernel_rfl) (cc rfl (p_bin g0 (od rfl id) (oc _) (inc_3 (by omega)))
        (cc rfl (p_move g0 (od rfl id)) cn)) fun a9 w9 b9 s9 => ?_
    have z9 := z8.trans (b9.mono z8.size)
    exact ⟨hlt1, s9.to _ ⟨rfl, rfl, rfl, rfl, rfl, rfl, rfl, True.intro⟩, z9, True.intro⟩
  · -- false
    obtain rfl : i = c.sl.length := by have := of_decide_eq_false h; (try dsimp only at this); omega
    refine wp_exit ?_
    refine wp_seq ?_
    refine wp_seq ?_
    refine flowC mixed (s6.keep (sc 1 rfl (sc 2 rfl (sc 3 rfl (sc 4 rfl (sc 60 rfl (sc 61 rfl (sc 62 rfl sn)))))))) (by kernel_rfl) (by kernel_rfl) (cc rfl (p_fieldAddr pt59_4 fa_59_4 g0 (od rfl id))
        (cc rfl (p_load1 rfl ld_57 g0 (od rfl id))
        (cc rfl (p_len ln_57 g0 (od rfl id))
        (cc rfl (p_move g0 (oc _)) cn)))) fun a10 w10 b10 s10 => ?_
    have z10 := z6.trans (b10.mono z6.size)
    have s10 := s10.more 4 (y := .bool (obTo c 0)) (s10.get 4 rfl)
    refine wp_block ?_
    refine wp_range c.obs.length 88 (fun i => [(4, true, .bool (obTo c i))]) (fun _ _ => True) (s10.keep (sc 88 rfl (sc 4 rfl (sc 1 rfl (sc 2 rfl (sc 3 rfl (sc 60 rfl (sc 61 rfl (sc 62 rfl (sc 86 rfl (sc 87 rfl sn))))))))))) z10 True.intro fun i a11 w11 hi2 s11 z11 x11 => ?_
    refine wp_seq ?_
    refine flowC mixed (s11.keep (sc 1 rfl (sc 2 rfl (sc 3 rfl (sc 4 rfl (sc 60 rfl (sc 61 rfl (sc 62 rfl (sc 86 rfl (sc 87 rfl (sc 88 rfl sn))))))))))) (by kernel_rfl) (by kernel_rfl) (cc rfl (p_bin g0 (od rfl id) (od rfl id) b_lss_3) cn) fun a12 w12 b12 s12 => ?_
    have z12 := z11.trans (b12.mono z11.size)
    refine wp_seq ?_
    refine s12.cond 89 rfl (fun h => ?_) (fun h => ?_)
    · -- true
      have hlt2 : i < c.obs.length := by simpa using h
      obtain ⟨o, eo⟩ : ∃ x, c.obs[i]? = some x := ⟨_, List.getElem?_eq_getElem hlt2⟩
      refine wp_skip ?_
      refine wp_seq ?_
      refine wp_block ?_
      refine wp_seq ?_
      refine flowQ 5 mixed (s12.keep (sc 1 rfl (sc 2 rfl (sc 3 rfl (sc 4 rfl (sc 60 rfl (sc 61 rfl (sc 62 rfl (sc 86 rfl (sc 87 rfl (sc 88 rfl (sc 89 rfl sn)))))))))))) (by kernel_rfl) (by kernel_rfl) (cc rfl (p_move g0 (od rfl id))
          (cc rfl (p_index ix_57 eo g0 (od rfl id) (od rfl id))
          (cc rfl (p_load u_67 ur_67 sz_67 g0 (od rfl id))
          (ca rfl (m_alloc al_67 nu67)
          (cc rfl (p_assign g0 (od rfl id)) cn))))) (by kernel_rfl) (ss rfl rfl rfl rfl puts_st sz_67 rfl rfl ss0) fun a13 w13 b13 s13 => ?_
      have z13 := z12.trans (b13.mono z12.size)
      refine wp_seq ?_
      refine flowT (s13.keep (sc 1 rfl (sc 2 rfl (sc 3 rfl (sc 4 rfl (sc 7 rfl (sc 8 rfl (sc 60 rfl (sc 61 rfl (sc 62 rfl (sc 86 rfl (sc 87 rfl (sc 88 rfl (sc 89 rfl (sc 90 rfl (sc 91 rfl (sc 92 rfl sn))))))))))))))))) (by kernel_rfl) (cc rfl (p_move g0 (od rfl id))
          (cc rfl (p_move g0 (od rfl id))
          (cc rfl (p_fieldAddr pt67_1 fa_67_1 (g1 rfl rfl) (od rfl (fun _ => rfl)))
          (cc rfl (p_loadI ld_3 (g1 rfl rfl) (od rfl id))
          (cc rfl (p_bin (g1 rfl rfl) (od rfl id) (oc _) b_geq_3)
          (cc rfl (p_and g0 (od rfl id) (od rfl id))
          (cc rfl (p_move g0 (od rfl id))
          (cc rfl (p_fieldAddr pt67_1 fa_67_1 (g1 rfl rfl) (od rfl (fun _ => rfl)))
          (cc rfl (p_loadI ld_3 (g1 rfl rfl) (od rfl id))
          (cc rfl (p_move (g1 rfl rfl) (od rfl (fun _ => rfl)))
          (cc rfl (p_bin (g1 rfl rfl) (od rfl id) (od rfl id) b_leq_3)
          (cc rfl (p_and g0 (od rfl id) (od rfl id))
          (cc rfl (p_assign g0 (od rfl id)) cn))))))))))))) fun a14 w14 b14 s14 => ?_
      have z14 := z13.trans (b14.mono z13.size)
      refine wp_seq ?_
      refine wp_seq ?_
      refine flowC mixed (s14.keep (sc 1 rfl (sc 2 rfl (sc 3 rfl (sc 4 rfl (sc 7 rfl (sc 8 rfl (sc 60 rfl (sc 61 rfl (sc 62 rfl (sc 86 rfl (sc 87 rfl (sc 88 rfl (sc 89 rfl (sc 90 rfl (sc 91 rfl (sc 92 rfl (sc 93 rfl (sc 94 rfl (sc 95 rfl (sc 96 rfl (sc 97 rfl (sc 98 rfl (sc 99 rfl (sc 100 rfl (sc 101 rfl (sc 102 rfl (sc 103 rfl (sc 104 rfl sn))))))))))))))))))))))))))))) (by kernel_rfl) (by kernel_rfl) (cc rfl (p_move g0 (od rfl id))
          (cc rfl (p_not g0 (od rfl id)) cn)) fun a15 w15 b15 s15 => ?_
      have z15 := z14.trans (b15.mono z14.size)
      refine s15.cond 106 rfl (fun h106 => ?_) (fun h106 => ?_)
      · -- true
        have hb : ((obTo c i && decide (0 ≤ o.par)) && decide (o.par ≤ (i : Int))) = false := by rw [Bool.not_eq_true'] at h106; exact h106
        refine wp_seq ?_
        refine flowT (s15.keep (sc 1 rfl (sc 2 rfl (sc 3 rfl (sc 4 rfl (sc 7 rfl (sc 8 rfl (sc 60 rfl (sc 61 rfl (sc 62 rfl (sc 86 rfl (sc 87 rfl (sc 88 rfl (sc 89 rfl (sc 90 rfl (sc 91 rfl (sc 92 rfl (sc 93 rfl (sc 94 rfl (sc 95 rfl (sc 96 rfl (sc 97 rfl (sc 98 rfl (sc 99 rfl (sc 100 rfl (sc 101 rfl (sc 102 rfl (sc 103 rfl (sc 104 rfl (sc 105 rfl (sc 106 rfl sn))))))))))))))))))))))))))))))) (by kernel_rfl) (cc rfl (p_assign g0 (oc _)) cn) fun a16 w16 b16 s16 => ?_
        have z16 := z15.trans (b16.mono z15.size)
        have s16 := s16.more 2 (y := .bool (rightD c)) (bool_as (s16.get 2 rfl) (ob_false (ob_stop eo hb) hlt2).symm)
        exact wp_ret (ret_tmp (fn := Try.f47) s16 2 rfl rfl (fun _ h => h) z16)
      · -- false
        have hb : ((obTo c i && decide (0 ≤ o.par)) && decide (o.par ≤ (i : Int))) = true := by rw [Bool.not_eq_false'] at h106; exact h106
        have s15 := s15.more 4 (y := .bool true) (bool_as (s15.get 4 rfl) hb)
        have hp0 : (obTo c i = true ∧ 0 ≤ o.par) ∧ o.par ≤ (i : Int) := by simpa using hb
        have hiL : i < c.obs.length := (List.getElem?_eq_some_iff.1 eo).1
        refine wp_skip ?_
        refine wp_seq ?_
        refine wp_region_lit ?_
        refine chainK 1 (cc rfl (p_bd39 g0 (oc _)) cn) (by kernel_rfl) (s15.keep (sc 1 rfl (sc 2 rfl (sc 3 rfl (sc 4 rfl (sc 7 rfl (sc 8 rfl (sc 60 rfl (sc 61 rfl (sc 62 rfl (sc 86 rfl (sc 87 rfl (sc 88 rfl (sc 89 rfl (sc 90 rfl (sc 91 rfl (sc 92 rfl (sc 93 rfl (sc 94 rfl (sc 95 rfl (sc 96 rfl (sc 97 rfl (sc 98 rfl (sc 99 rfl (sc 100 rfl (sc 101 rfl (sc 102 rfl (sc 103 rfl (sc 104 rfl (sc 105 rfl (sc 106 rfl sn))))))))))))))))))))))))))))))) fun a17 w17 b17 s17 => ?_
        have z17 := z15.trans (b17.mono z15.size)
        have s17 := s17.more 107 (y := .st (labL 12) ⟨2, []⟩) (by rw [show _ = _ from s17.get 107 rfl]; exact labd_on)
        show wpList _ _ _ (_ :: _) _ _
        have hFlt := s17.fok.lt
        refine alloc_U (u := 39) (z := #[.int .i64 0, .slice none 0 0]) s17 nu39 rfl (by decide) rfl (fun ev w => al_39 ev w) fun g9 a18 w18 k9 hg9 b18 s18 => ?_
        have hFg : ∀ k : Cell, F k → k.1 < g9 := fun k hk => Nat.lt_of_lt_of_le (hFlt k hk) hg9
        have hg9W := Nat.le_trans z17.size hg9
        have z18 := z17.trans (b18.mono z17.size)
        show wpList _ _ _ (_ :: _) _ _
        refine store_U (L := labL 12) 9 107 s18 rfl rfl rfl rfl rfl k9 rfl sz_39 (fun _ => .inr rfl) nul fun cs9 a19 w19 k9 hs9 hL9 g19 s19 => ?_
        have z19 := below_grown z18 g19 hg9W
        refine wpList_done ?_
        refine wp_seq ?_
        refine wp_seq ?_
        refine flowC mixed (s19.keep (sc 1 rfl (sc 2 rfl (sc 3 rfl (sc 4 rfl (sc 7 rfl (sc 8 rfl (sc 9 rfl (sc 60 rfl (sc 61 rfl (sc 62 rfl (sc 86 rfl (sc 87 rfl (sc 88 rfl (sc 89 rfl (sc 90 rfl (sc 91 rfl (sc 92 rfl (sc 93 rfl (sc 94 rfl (sc 95 rfl (sc 96 rfl (sc 97 rfl (sc 98 rfl (sc 99 rfl (sc 100 rfl (sc 101 rfl (sc 102 rfl (sc 103 rfl (sc 104 rfl (sc 105 rfl (sc 106 rfl (sc 107 rfl sn))))))))))))))))))))))))))))))))) (by kernel_rfl) (by kernel_rfl) (cc rfl (p_fieldAddr pt67_1 fa_67_1 g0 (od rfl id))
            (cc rfl (p_loadI ld_3 g0 (od rfl id))
            (cc rfl (p_bin g0 (od rfl id) (oc _) b_gtr_3) cn))) fun a20 w20 b20 s20 => ?_
        have z20 := z19.trans (b20.mono z19.size)
        have k9 := k9.below b20 k9.lt
        have hL9 := (labL 12).mono hL9 (.of b20) fun _ _ h => h
        refine s20.cond 110 rfl (fun h110 => ?_) (fun h110 => ?_)
        · -- true
          have hpos : 0 < o.par := of_decide_eq_true h110
          obtain ⟨j, hj⟩ : ∃ j : Nat, o.par = (j : Int) + 1 := ⟨(o.par - 1).toNat, by omega⟩
          obtain ⟨p, ej⟩ : ∃ p, c.obs[j]? = some p := ⟨_, List.getElem?_eq_getElem (by omega)⟩
          refine wp_seq ?_
          refine flowQ 8 mixed (s20.keep (sc 1 rfl (sc 2 rfl (sc 3 rfl (sc 4 rfl (sc 7 rfl (sc 8 rfl (sc 9 rfl (sc 60 rfl (sc 61 rfl (sc 62 rfl (sc 86 rfl (sc 87 rfl (sc 88 rfl (sc 89 rfl (sc 90 rfl (sc 91 rfl (sc 92 rfl (sc 93 rfl (sc 94 rfl (sc 95 rfl (sc 96 rfl (sc 97 rfl (sc 98 rfl (sc 99 rfl (sc 100 rfl (sc 101 rfl (sc 102 rfl (sc 103 rfl (sc 104 rfl (sc 105 rfl (sc 106 rfl (sc 107 rfl (sc 108 rfl (sc 109 rfl (sc 110 rfl sn)))))))))))))))))))))))))))))))))))) (by kernel_rfl) (by kernel_rfl) (cc rfl (p_fieldAddr pt59_4 fa_59_4 g0 (od rfl id))
              (cc rfl (p_load1 rfl ld_57 g0 (od rfl id))
              (cc rfl (p_fieldAddr pt67_1 fa_67_1 g0 (od rfl id))
              (cc rfl (p_loadI ld_3 g0 (od rfl id))
              (cc rfl (p_binE (n' := (j : Int)) (by rw [IntKind.wrap_i64]; omega) g0 (od rfl id) (oc _) b_sub_3)
              (cc rfl (p_index ix_57 ej g0 (od rfl id) (od rfl id))
              (cc rfl (p_load u_67 ur_67 sz_67 g0 (od rfl id))
              (ca rfl (m_alloc al_67 nu67) cn)))))))) (by kernel_rfl) (ss rfl rfl rfl rfl puts_st sz_67 rfl rfl ss0) fun a21 w21 b21 s21 => ?_
          have z21 := z20.trans (b21.mono z20.size)
          have k9 := k9.below b21 k9.lt
          have hL9 := (labL 12).mono hL9 (.of b21) fun _ _ h => h
          refine wp_seq ?_
          refine flowT (s21.keep (sc 1 rfl (sc 2 rfl (sc 3 rfl (sc 4 rfl (sc 7 rfl (sc 8 rfl (sc 9 rfl (sc 10 rfl (sc 60 rfl (sc 61 rfl (sc 62 rfl (sc 86 rfl (sc 87 rfl (sc 88 rfl (sc 89 rfl (sc 90 rfl (sc 91 rfl (sc 92 rfl (sc 93 rfl (sc 94 rfl (sc 95 rfl (sc 96 rfl (sc 97 rfl (sc 98 rfl (sc 99 rfl (sc 100 rfl (sc 101 rfl (sc 102 rfl (sc 103 rfl (sc 104 rfl (sc 105 rfl (sc 106 rfl (sc 107 rfl (sc 108 rfl (sc 109 rfl (sc 110 rfl (sc 111 rfl (sc 112 rfl (sc 113 rfl (sc 114 rfl (sc 115 rfl (sc 116 rfl (sc 117 rfl sn)))))))))))))))))))))))))))))))))))))))))))) (by kernel_rfl) (cc rfl (p_fieldAddr pt67_0 fa_67_0 g0 (od rfl id))
              (cc rfl (p_loadI ld_3 g0 (od rfl id))
              (cc rfl (p_bin g0 (od rfl id) (oc _) b_eql_3)
              (cc rfl (p_assign g0 (od rfl id)) cn)))) fun a22 w22 b22 s22 => ?_
          have z22 := z21.trans (b22.mono z21.size)
          have k9 := k9.below b22 k9.lt
          have hL9 := (labL 12).mono hL9 (.of b22) fun _ _ h => h
          refine wp_region_lit ?_
          refine chainK 2 (cc rfl (p_fieldAddr pt67_2 fa_67_2 g0 (od rfl id))
              (cc rfl (p_load Try.underlying39 rfl sz_39 g0 (od rfl id)) cn)) (by kernel_rfl) (s22.keep (sc 1 rfl (sc 2 rfl (sc 3 rfl (sc 4 rfl (sc 7 rfl (sc 8 rfl (sc 9 rfl (sc 10 rfl (sc 60 rfl (sc 61 rfl (sc 62 rfl (sc 86 rfl (sc 87 rfl (sc 88 rfl (sc 89 rfl (sc 90 rfl (sc 91 rfl (sc 92 rfl (sc 93 rfl (sc 94 rfl (sc 95 rfl (sc 96 rfl (sc 97 rfl (sc 98 rfl (sc 99 rfl (sc 100 rfl (sc 101 rfl (sc 102 rfl (sc 103 rfl (sc 104 rfl (sc 105 rfl (sc 106 rfl (sc 107 rfl (sc 108 rfl (sc 109 rfl (sc 110 rfl (sc 111 rfl (sc 112 rfl (sc 113 rfl (sc 114 rfl (sc 115 rfl (sc 116 rfl (sc 117 rfl (sc 118 rfl (sc 119 rfl (sc 120 rfl sn))))))))))))))))))))))))))))))))))))))))))))))) fun a23 w23 b23 s23 => ?_
          have z23 := z22.trans (b23.mono z22.size)
          have k9 := k9.below b23 k9.lt
          have hL9 := (labL 12).mono hL9 (.of b23) fun _ _ h => h
          show wpList _ _ _ (_ :: _) _ _
          refine store_U (L := labL 12) 9 122 s23 rfl rfl rfl rfl rfl k9 hs9 sz_39 (fun _ => .inr rfl) nul fun cs9 a24 w24 k9 hs9 hL9 g24 s24 => ?_
          have z24 := below_grown z23 g24 hg9W
          refine wpList_done ?_
          refine wp_seq ?_
          have s24 := s24.less (F' := F) (fun _ h => .inl h)
          have hL9 := (labL 12).mono hL9 (.refl _ _) (F' := F) (fun _ _ h => .inl h)
          have s24 := s24.more 9 (y := .at (labL 12) p.lab) (by rw [show _ = _ from s24.get 9 rfl]; exact at_of_blk k9 hL9 (fun o hf => Nat.lt_irrefl _ (hFg (g9, o) hf)))
          refine flowC mixed (s24.keep (sc 1 rfl (sc 2 rfl (sc 3 rfl (sc 4 rfl (sc 7 rfl (sc 8 rfl (sc 9 rfl (sc 10 rfl (sc 60 rfl (sc 61 rfl (sc 62 rfl (sc 86 rfl (sc 87 rfl (sc 88 rfl (sc 89 rfl (sc 90 rfl (sc 91 rfl (sc 92 rfl (sc 93 rfl (sc 94 rfl (sc 95 rfl (sc 96 rfl (sc 97 rfl (sc 98 rfl (sc 99 rfl (sc 100 rfl (sc 101 rfl (sc 102 rfl (sc 103 rfl (sc 104 rfl (sc 105 rfl (sc 106 rfl (sc 107 rfl (sc 108 rfl (sc 109 rfl (sc 110 rfl (sc 111 rfl (sc 112 rfl (sc 113 rfl (sc 114 rfl (sc 115 rfl (sc 116 rfl (sc 117 rfl (sc 118 rfl (sc 119 rfl (sc 120 rfl (sc 121 rfl (sc 122 rfl sn))))))))))))))))))))))))))))))))))))))))))))))))) (by kernel_rfl) (by kernel_rfl) (cc rfl (p_fieldAddr pt67_2 fa_67_2 g0 (od rfl id))
              (cc rfl (p_load Try.underlying39 rfl sz_39 g0 (od rfl id))
              (cc rfl (p_call 80 g0 (ox (od rfl id) ox0) (fun _ _ => by kernel_rfl) (f80 (by decide)))
              (cc rfl (p_len ln_75 g0 (od rfl id))
              (cc rfl (p_bin g0 (od rfl id) (oc _) b_eql_3)
              (cc rfl (p_assign g0 (od rfl id)) cn)))))) fun a25 w25 b25 s25 => ?_
          have z25 := z24.trans (b25.mono z24.size)
          have s25 := s25.more 11 (y := .bool (plainB o.lab)) (s25.get 11 rfl)
          refine wp_seq ?_
          refine flowR 13 mixed (s25.keep (sc 1 rfl (sc 2 rfl (sc 3 rfl (sc 4 rfl (sc 7 rfl (sc 8 rfl (sc 9 rfl (sc 10 rfl (sc 11 rfl (sc 60 rfl (sc 61 rfl (sc 62 rfl (sc 86 rfl (sc 87 rfl (sc 88 rfl (sc 89 rfl (sc 90 rfl (sc 91 rfl (sc 92 rfl (sc 93 rfl (sc 94 rfl (sc 95 rfl (sc 96 rfl (sc 97 rfl (sc 98 rfl (sc 99 rfl (sc 100 rfl (sc 101 rfl (sc 102 rfl (sc 103 rfl (sc 104 rfl (sc 105 rfl (sc 106 rfl (sc 107 rfl (sc 108 rfl (sc 109 rfl (sc 110 rfl (sc 111 rfl (sc 112 rfl (sc 113 rfl (sc 114 rfl (sc 115 rfl (sc 116 rfl (sc 117 rfl (sc 118 rfl (sc 119 rfl (sc 120 rfl (sc 121 rfl (sc 122 rfl (sc 123 rfl (sc 124 rfl (sc 125 rfl (sc 126 rfl (sc 127 rfl sn))))))))))))))))))))))))))))))))))))))))))))))))))))))) (by kernel_rfl) (by kernel_rfl) (cc rfl (p_move g0 (od rfl id))
              (cc rfl (p_move g0 (od rfl id))
              (cc rfl (p_fieldAddr pt67_2 fa_67_2 (g1 rfl rfl) (od rfl (fun _ => rfl)))
              (cc rfl (p_load Try.underlying39 rfl sz_39 (g1 rfl rfl) (od rfl id))
              (cc rfl (p_call 42 (g1 rfl rfl) (ox (od rfl id) ox0) (fun _ _ => by kernel_rfl) (f42 (by decide)))
              (cc rfl (p_and g0 (od rfl id) (od rfl id))
              (cc rfl (p_move g0 (od rfl id))
              (cc rfl (p_load Try.underlying39 rfl sz_39 (g1 rfl rfl) (od rfl (fun _ => rfl)))
              (cc rfl (p_fieldAddr pt67_2 fa_67_2 (g1 rfl rfl) (od rfl (fun _ => rfl)))
              (cc rfl (p_load Try.underlying39 rfl sz_39 (g1 rfl rfl) (od rfl id))
              (cc rfl (p_call 77 (g1 rfl rfl) (ox (od rfl id) ox0) (fun _ _ => by kernel_rfl) (f77 (by decide)))
              (cc rfl (p_call 83 (g1 rfl rfl) (ox (od rfl id) (ox (od rfl id) ox0)) (fun _ _ => by kernel_rfl) (f83 (by decide)))
              (cc rfl (p_and g0 (od rfl id) (od rfl id)) cn))))))))))))) fun a26 w26 b26 s26 => ?_
          have z26 := z25.trans (b26.mono z25.size)
          refine chainT (t := []) (cc rfl (p_assign g0 (od rfl id)) cn) (by kernel_rfl) s26 fun a27 w27 b27 s27 => wpList_done ?_
          have z27 := z26.trans (b27.mono z26.size)
          have s27 := s27.more 4 (y := .bool (upO c o)) (bool_as (s27.get 4 rfl) (up_at hj ej).symm)
          refine wp_seq ?_
          refine flowC mixed (s27.keep (sc 1 rfl (sc 2 rfl (sc 3 rfl (sc 4 rfl (sc 7 rfl (sc 8 rfl (sc 9 rfl (sc 10 rfl (sc 11 rfl (sc 60 rfl (sc 61 rfl (sc 62 rfl (sc 86 rfl (sc 87 rfl (sc 88 rfl (sc 89 rfl (sc 90 rfl (sc 91 rfl (sc 92 rfl (sc 93 rfl (sc 94 rfl (sc 95 rfl (sc 96 rfl (sc 97 rfl (sc 98 rfl (sc 99 rfl (sc 100 rfl (sc 101 rfl (sc 102 rfl (sc 103 rfl (sc 104 rfl (sc 105 rfl (sc 106 rfl (sc 107 rfl (sc 108 rfl (sc 109 rfl (sc 110 rfl (sc 111 rfl (sc 112 rfl (sc 113 rfl (sc 114 rfl (sc 115 rfl (sc 116 rfl (sc 117 rfl (sc 118 rfl (sc 119 rfl (sc 120 rfl (sc 121 rfl (sc 122 rfl (sc 123 rfl (sc 124 rfl (sc 125 rfl (sc 126 rfl (sc 127 rfl (sc 128 rfl (sc 129 rfl (sc 130 rfl (sc 131 rfl (sc 132 rfl (sc 133 rfl (sc 134 rfl (sc 135 rfl (sc 136 rfl (sc 137 rfl (sc 138 rfl (sc 139 rfl (sc 140 rfl sn)))))))))))))))))))))))))))))))))))))))))))))))))))))))))))))))))))) (by kernel_rfl) (by kernel_rfl) (cc rfl (p_fieldAddr pt67_0 fa_67_0 g0 (od rfl id))
              (cc rfl (p_loadI ld_3 g0 (od rfl id)) cn)) fun a28 w28 b28 s28 => ?_
          have z28 := z27.trans (b28.mono z27.size)
          refine wp_block ?_
          refine wp_seq ?_
          refine flowC mixed (s28.keep (sc 1 rfl (sc 2 rfl (sc 3 rfl (sc 4 rfl (sc 7 rfl (sc 8 rfl (sc 9 rfl (sc 10 rfl (sc 11 rfl (sc 60 rfl (sc 61 rfl (sc 62 rfl (sc 86 rfl (sc 87 rfl (sc 88 rfl (sc 89 rfl (sc 90 rfl (sc 91 rfl (sc 92 rfl (sc 93 rfl (sc 94 rfl (sc 95 rfl (sc 96 rfl (sc 97 rfl (sc 98 rfl (sc 99 rfl (sc 100 rfl (sc 101 rfl (sc 102 rfl (sc 103 rfl (sc 104 rfl (sc 105 rfl (sc 106 rfl (sc 107 rfl (sc 108 rfl (sc 109 rfl (sc 110 rfl (sc 111 rfl (sc 112 rfl (sc 113 rfl (sc 114 rfl (sc 115 rfl (sc 116 rfl (sc 117 rfl (sc 118 rfl (sc 119 rfl (sc 120 rfl (sc 121 rfl (sc 122 rfl (sc 123 rfl (sc 124 rfl (sc 125 rfl (sc 126 rfl (sc 127 rfl (sc 128 rfl (sc 129 rfl (sc 130 rfl (sc 131 rfl (sc 132 rfl (sc 133 rfl (sc 134 rfl (sc 135 rfl (sc 136 rfl (sc 137 rfl (sc 138 rfl (sc 139 rfl (sc 140 rfl (sc 141 rfl (sc 142 rfl sn)))))))))))))))))))))))))))))))))))))))))))))))))))))))))))))))))))))) (by kernel_rfl) (by kernel_rfl) (cc rfl (p_bin g0 (od rfl id) (oc _) b_eql_3)
              (cc rfl (p_assign g0 (od rfl id)) cn)) fun a29 w29 b29 s29 => ?_
          have z29 := z28.trans (b29.mono z28.size)
          refine s29.cond 143 rfl (fun h143 => ?_) (fun h143 => ?_)
          · -- true
            refine flowT (s29.keep (sc 1 rfl (sc 2 rfl (sc 3 rfl (sc 4 rfl (sc 7 rfl (sc 8 rfl (sc 9 rfl (sc 10 rfl (sc 11 rfl (sc 60 rfl (sc 61 rfl (sc 62 rfl (sc 86 rfl (sc 87 rfl (sc 88 rfl (sc 89 rfl (sc 90 rfl (sc 91 rfl (sc 92 rfl (sc 93 rfl (sc 94 rfl (sc 95 rfl (sc 96 rfl (sc 97 rfl (sc 98 rfl (sc 99 rfl (sc 100 rfl (sc 101 rfl (sc 102 rfl (sc 103 rfl (sc 104 rfl (sc 105 rfl (sc 106 rfl (sc 107 rfl (sc 108 rfl (sc 109 rfl (sc 110 rfl (sc 111 rfl (sc 112 rfl (sc 113 rfl (sc 114 rfl (sc 115 rfl (sc 116 rfl (sc 117 rfl (sc 118 rfl (sc 119 rfl (sc 120 rfl (sc 121 rfl (sc 122 rfl (sc 123 rfl (sc 124 rfl (sc 125 rfl (sc 126 rfl (sc 127 rfl (sc 128 rfl (sc 129 rfl (sc 130 rfl (sc 131 rfl (sc 132 rfl (sc 133 rfl (sc 134 rfl (sc 135 rfl (sc 136 rfl (sc 137 rfl (sc 138 rfl (sc 139 rfl (sc 140 rfl (sc 141 rfl (sc 142 rfl (sc 143 rfl (sc 144 rfl sn)))))))))))))))))))))))))))))))))))))))))))))))))))))))))))))))))))))))) (by kernel_rfl) (cc rfl (p_move g0 (od rfl id))
                (cc rfl (p_move g0 (od rfl id))
                (cc rfl (p_move (g1 rfl rfl) (od rfl (fun _ => rfl)))
                (cc rfl (p_and g0 (od rfl id) (od rfl id))
                (cc rfl (p_move g0 (od rfl id))
                (cc rfl (p_fieldAddr pt67_4 fa_67_4 (g1 rfl rfl) (od rfl (fun _ => rfl)))
                (cc rfl (p_loadI ld_3 (g1 rfl rfl) (od rfl id))
                (cc rfl (p_bin (g1 rfl rfl) (od rfl id) (oc _) b_geq_3)
                (cc rfl (p_and g0 (od rfl id) (od rfl id))
                (cc rfl (p_move g0 (od rfl id))
                (cc rfl (p_fieldAddr pt67_4 fa_67_4 (g1 rfl rfl) (od rfl (fun _ => rfl)))
                (cc rfl (p_loadI ld_3 (g1 rfl rfl) (od rfl id))
                (cc rfl (p_bin (g1 rfl rfl) (od rfl id) (oc _) b_leq_3)
                (cc rfl (p_and g0 (od rfl id) (od rfl id))
                (cc rfl (p_move g0 (od rfl id))
                (cc rfl (p_fieldAddr pt67_5 fa_67_5 (g1 rfl rfl) (od rfl (fun _ => rfl)))
                (cc rfl (p_loadI ld_3 (g1 rfl rfl) (od rfl id))
                (cc rfl (p_bin (g1 rfl rfl) (od rfl id) (oc _) b_geq_3)
                (cc rfl (p_and g0 (od rfl id) (od rfl id))
                (cc rfl (p_move g0 (od rfl id))
                (cc rfl (p_fieldAddr pt67_5 fa_67_5 (g1 rfl rfl) (od rfl (fun _ => rfl)))
                (cc rfl (p_loadI ld_3 (g1 rfl rfl) (od rfl id))
                (cc rfl (p_bin (g1 rfl rfl) (od rfl id) (oc _) b_leq_3)
                (cc rfl (p_and g0 (od rfl id) (od rfl id))
                (cc rfl (p_assign g0 (od rfl id)) cn))))))))))))))))))))))))) fun a30 w30 b30 s30 => ?_
            have z30 := z29.trans (b30.mono z29.size)
            have s30 := s30.more 4 (y := .bool (obTo c (i + 1))) (bool_as (s30.get 4 rfl) ((ob_go eo hb).trans (show kindO c o (upO c o) = _ from (by simp only [kindO, h143, if_true]))).symm)
            refine flowT (s30.keep (sc 1 rfl (sc 2 rfl (sc 3 rfl (sc 4 rfl (sc 7 rfl (sc 8 rfl (sc 9 rfl (sc 10 rfl (sc 11 rfl (sc 60 rfl (sc 61 rfl (sc 62 rfl (sc 86 rfl (sc 87 rfl (sc 88 rfl (sc 89 rfl (sc 90 rfl (sc 91 rfl (sc 92 rfl (sc 93 rfl (sc 94 rfl (sc 95 rfl (sc 96 rfl (sc 97 rfl (sc 98 rfl (sc 99 rfl (sc 100 rfl (sc 101 rfl (sc 102 rfl (sc 103 rfl (sc 104 rfl (sc 105 rfl (sc 106 rfl (sc 107 rfl (sc 108 rfl (sc 109 rfl (sc 110 rfl (sc 111 rfl (sc 112 rfl (sc 113 rfl (sc 114 rfl (sc 115 rfl (sc 116 rfl (sc 117 rfl (sc 118 rfl (sc 119 rfl (sc 120 rfl (sc 121 rfl (sc 122 rfl (sc 123 rfl (sc 124 rfl (sc 125 rfl (sc 126 rfl (sc 127 rfl (sc 128 rfl (sc 129 rfl (sc 130 rfl (sc 131 rfl (sc 132 rfl (sc 133 rfl (sc 134 rfl (sc 135 rfl (sc 136 rfl (sc 137 rfl (sc 138 rfl (sc 139 rfl (sc 140 rfl (sc 141 rfl (sc 142 rfl (sc 143 rfl (sc 144 rfl (sc 145 rfl (sc 146 rfl (sc 147 rfl (sc 148 rfl (sc 149 rfl (sc 150 rfl (sc 151 rfl (sc 152 rfl (sc 153 rfl (sc 154 rfl (sc 155 rfl (sc 156 rfl (sc 157 rfl (sc 158 rfl (sc 159 rfl (sc 160 rfl (sc 161 rfl (sc 162 rfl (sc 163 rfl (sc 164 rfl (sc 165 rfl (sc 166 rfl (sc 167 rfl (sc 168 rfl sn)))))))))))))))))))))))))))))))))))))))))))))))))))))))))))))))))))))))))))))))))))))))))))))))) (by kernel_rfl) (cc rfl (p_bin g0 (od rfl id) (oc _) (inc_3 (by omega)))
                (cc rfl (p_move g0 (od rfl id)) cn)) fun a31 w31 b31 s31 => ?_
            have z31 := z30.trans (b31.mono z30.size)
            exact ⟨hlt2, s31.to _ ⟨rfl, rfl, rfl, rfl, rfl, rfl, rfl, rfl, rfl, rfl, True.intro⟩, z31, True.intro⟩
          · -- false
            refine wp_seq ?_
            refine flowC mixed (s29.keep (sc 1 rfl (sc 2 rfl (sc 3 rfl (sc 4 rfl (sc 7 rfl (sc 8 rfl (sc 9 rfl (sc 10 rfl (sc 11 rfl (sc 60 rfl (sc 61 rfl (sc 62 rfl (sc 86 rfl (sc 87 rfl (sc 88 rfl (sc 89 rfl (sc 90 rfl (sc 91 rfl (sc 92 rfl (sc 93 rfl (sc 94 rfl (sc 95 rfl (sc 96 rfl (sc 97 rfl (sc 98 rfl (sc 99 rfl (sc 100 rfl (sc 101 rfl (sc 102 rfl (sc 103 rfl (sc 104 rfl (sc 105 rfl (sc 106 rfl (sc 107 rfl (sc 108 rfl (sc 109 rfl (sc 110 rfl (sc 111 rfl (sc 112 rfl (sc 113 rfl (sc 114 rfl (sc 115 rfl (sc 116 rfl (sc 117 rfl (sc 118 rfl (sc 119 rfl (sc 120 rfl (sc 121 rfl (sc 122 rfl (sc 123 rfl (sc 124 rfl (sc 125 rfl (sc 126 rfl (sc 127 rfl (sc 128 rfl (sc 129 rfl (sc 130 rfl (sc 131 rfl (sc 132 rfl (sc 133 rfl (sc 134 rfl (sc 135 rfl (sc 136 rfl (sc 137 rfl (sc 138 rfl (sc 139 rfl (sc 140 rfl (sc 141 rfl (sc 142 rfl (sc 143 rfl (sc 144 rfl sn)))))))))))))))))))))))))))))))))))))))))))))))))))))))))))))))))))))))) (by kernel_rfl) (by kernel_rfl) (cc rfl (p_bin g0 (od rfl id) (oc _) b_eql_3)
                (cc rfl (p_assign g0 (od rfl id)) cn)) fun a32 w32 b32 s32 => ?_
            have z32 := z29.trans (b32.mono z29.size)
            refine s32.cond 169 rfl (fun h169 => ?_) (fun h169 => ?_)
            · -- true
              refine flowT (s32.keep (sc 1 rfl (sc 2 rfl (sc 3 rfl (sc 4 rfl (sc 7 rfl (sc 8 rfl (sc 9 rfl (sc 10 rfl (sc 11 rfl (sc 60 rfl (sc 61 rfl (sc 62 rfl (sc 86 rfl (sc 87 rfl (sc 88 rfl (sc 89 rfl (sc 90 rfl (sc 91 rfl (sc 92 rfl (sc 93 rfl (sc 94 rfl (sc 95 rfl (sc 96 rfl (sc 97 rfl (sc 98 rfl (sc 99 rfl (sc 100 rfl (sc 101 rfl (sc 102 rfl (sc 103 rfl (sc 104 rfl (sc 105 rfl (sc 106 rfl (sc 107 rfl (sc 108 rfl (sc 109 rfl (sc 110 rfl (sc 111 rfl (sc 112 rfl (sc 113 rfl (sc 114 rfl (sc 115 rfl (sc 116 rfl (sc 117 rfl (sc 118 rfl (sc 119 rfl (sc 120 rfl (sc 121 rfl (sc 122 rfl (sc 123 rfl (sc 124 rfl (sc 125 rfl (sc 126 rfl (sc 127 rfl (sc 128 rfl (sc 129 rfl (sc 130 rfl (sc 131 rfl (sc 132 rfl (sc 133 rfl (sc 134 rfl (sc 135 rfl (sc 136 rfl (sc 137 rfl (sc 138 rfl (sc 139 rfl (sc 140 rfl (sc 141 rfl (sc 142 rfl (sc 143 rfl (sc 144 rfl (sc 169 rfl (sc 170 rfl sn)))))))))))))))))))))))))))))))))))))))))))))))))))))))))))))))))))))))))) (by kernel_rfl) (cc rfl (p_move g0 (od rfl id))
                  (cc rfl (p_move g0 (od rfl id))
                  (cc rfl (p_move (g1 rfl rfl) (od rfl (fun _ => rfl)))
                  (cc rfl (p_and g0 (od rfl id) (od rfl id))
                  (cc rfl (p_move g0 (od rfl id))
                  (cc rfl (p_fieldAddr pt67_4 fa_67_4 (g1 rfl rfl) (od rfl (fun _ => rfl)))
                  (cc rfl (p_loadI ld_3 (g1 rfl rfl) (od rfl id))
                  (cc rfl (p_bin (g1 rfl rfl) (od rfl id) (oc _) b_geq_3)
                  (cc rfl (p_and g0 (od rfl id) (od rfl id))
                  (cc rfl (p_move g0 (od rfl id))
                  (cc rfl (p_fieldAddr pt67_4 fa_67_4 (g1 rfl rfl) (od rfl (fun _ => rfl)))
                  (cc rfl (p_loadI ld_3 (g1 rfl rfl) (od rfl id))
                  (cc rfl (p_bin (g1 rfl rfl) (od rfl id) (oc _) b_leq_3)
                  (cc rfl (p_and g0 (od rfl id) (od rfl id))
                  (cc rfl (p_move g0 (od rfl id))
                  (cc rfl (p_fieldAddr pt67_6 fa_67_6 (g1 rfl rfl) (od rfl (fun _ => rfl)))
                  (cc rfl (p_load1 rfl ld_22 (g1 rfl rfl) (od rfl id))
                  (cc rfl (p_len ln_22 (g1 rfl rfl) (od rfl id))
                  (cc rfl (p_fieldAddr pt67_4 fa_67_4 (g1 rfl rfl) (od rfl (fun _ => rfl)))
                  (cc rfl (p_loadI ld_3 (g1 rfl rfl) (od rfl id))
                  (cc rfl (p_bin (g1 rfl rfl) (oc _) (od rfl id) b_mul_3)
                  (cc rfl (p_bin (g1 rfl rfl) (od rfl id) (od rfl id) b_leq_3)
                  (cc rfl (p_and g0 (od rfl id) (od rfl id))
                  (cc rfl (p_assign g0 (od rfl id)) cn)))))))))))))))))))))))) fun a33 w33 b33 s33 => ?_
              have z33 := z32.trans (b33.mono z32.size)
              have s33 := s33.more 4 (y := .bool (obTo c (i + 1))) (bool_as (s33.get 4 rfl) ((ob_go eo hb).trans (show kindO c o (upO c o) = _ from (by simp only [kindO, h143, h169, if_true, if_false, Bool.false_eq_true]))).symm)
              refine flowT (s33.keep (sc 1 rfl (sc 2 rfl (sc 3 rfl (sc 4 rfl (sc 7 rfl (sc 8 rfl (sc 9 rfl (sc 10 rfl (sc 11 rfl (sc 60 rfl (sc 61 rfl (sc 62 rfl (sc 86 rfl (sc 87 rfl (sc 88 rfl (sc 89 rfl (sc 90 rfl (sc 91 rfl (sc 92 rfl (sc 93 rfl (sc 94 rfl (sc 95 rfl (sc 96 rfl (sc 97 rfl (sc 98 rfl (sc 99 rfl (sc 100 rfl (sc 101 rfl (sc 102 rfl (sc 103 rfl (sc 104 rfl (sc 105 rfl (sc 106 rfl (sc 107 rfl (sc 108 rfl (sc 109 rfl (sc 110 rfl (sc 111 rfl (sc 112 rfl (sc 113 rfl (sc 114 rfl (sc 115 rfl (sc 116 rfl (sc 117 rfl (sc 118 rfl (sc 119 rfl (sc 120 rfl (sc 121 rfl (sc 122 rfl (sc 123 rfl (sc 124 rfl (sc 125 rfl (sc 126 rfl (sc 127 rfl (sc 128 rfl (sc 129 rfl (sc 130 rfl (sc 131 rfl (sc 132 rfl (sc 133 rfl (sc 134 rfl (sc 135 rfl (sc 136 rfl (sc 137 rfl (sc 138 rfl (sc 139 rfl (sc 140 rfl (sc 141 rfl (sc 142 rfl (sc 143 rfl (sc 144 rfl (sc 169 rfl (sc 170 rfl (sc 171 rfl (sc 172 rfl (sc 173 rfl (sc 174 rfl (sc 175 rfl (sc 176 rfl (sc 177 rfl (sc 178 rfl (sc 179 rfl (sc 180 rfl (sc 181 rfl (sc 182 rfl (sc 183 rfl (sc 184 rfl (sc 185 rfl (sc 186 rfl (sc 187 rfl (sc 188 rfl (sc 189 rfl (sc 190 rfl (sc 191 rfl (sc 192 rfl (sc 193 rfl sn))))))))))))))))))))))))))))))))))))))))))))))))))))))))))))))))))))))))))))))))))))))))))))))))) (by kernel_rfl) (cc rfl (p_bin g0 (od rfl id) (oc _) (inc_3 (by omega)))
                  (cc rfl (p_move g0 (od rfl id)) cn)) fun a34 w34 b34 s34 => ?_
              have z34 := z33.trans (b34.mono z33.size)
              exact ⟨hlt2, s34.to _ ⟨rfl, rfl, rfl, rfl, rfl, rfl, rfl, rfl, rfl, rfl, True.intro⟩, z34, True.intro⟩
            · -- false
              refine wp_seq ?_
              refine flowC mixed (s32.keep (sc 1 rfl (sc 2 rfl (sc 3 rfl (sc 4 rfl (sc 7 rfl (sc 8 rfl (sc 9 rfl (sc 10 rfl (sc 11 rfl (sc 60 rfl (sc 61 rfl (sc 62 rfl (sc 86 rfl (sc 87 rfl (sc 88 rfl (sc 89 rfl (sc 90 rfl (sc 91 rfl (sc 92 rfl (sc 93 rfl (sc 94 rfl (sc 95 rfl (sc 96 rfl (sc 97 rfl (sc 98 rfl (sc 99 rfl (sc 100 rfl (sc 101 rfl (sc 102 rfl (sc 103 rfl (sc 104 rfl (sc 105 rfl (sc 106 rfl (sc 107 rfl (sc 108 rfl (sc 109 rfl (sc 110 rfl (sc 111 rfl (sc 112 rfl (sc 113 rfl (sc 114 rfl (sc 115 rfl (sc 116 rfl (sc 117 rfl (sc 118 rfl (sc 119 rfl (sc 120 rfl (sc 121 rfl (sc 122 rfl (sc 123 rfl (sc 124 rfl (sc 125 rfl (sc 126 rfl (sc 127 rfl (sc 128 rfl (sc 129 rfl (sc 130 rfl (sc 131 rfl (sc 132 rfl (sc 133 rfl (sc 134 rfl (sc 135 rfl (sc 136 rfl (sc 137 rfl (sc 138 rfl (sc 139 rfl (sc 140 rfl (sc 141 rfl (sc 142 rfl (sc 143 rfl (sc 144 rfl (sc 169 rfl (sc 170 rfl sn)))))))))))))))))))))))))))))))))))))))))))))))))))))))))))))))))))))))))) (by kernel_rfl) (by kernel_rfl) (cc rfl (p_bin g0 (od rfl id) (oc _) b_eql_3)
                  (cc rfl (p_assign g0 (od rfl id)) cn)) fun a35 w35 b35 s35 => ?_
              have z35 := z32.trans (b35.mono z32.size)
              refine s35.cond 194 rfl (fun h194 => ?_) (fun h194 => ?_)
              · -- true
                refine flowT (s35.keep (sc 1 rfl (sc 2 rfl (sc 3 rfl (sc 4 rfl (sc 7 rfl (sc 8 rfl (sc 9 rfl (sc 10 rfl (sc 11 rfl (sc 60 rfl (sc 61 rfl (sc 62 rfl (sc 86 rfl (sc 87 rfl (sc 88 rfl (sc 89 rfl (sc 90 rfl (sc 91 rfl (sc 92 rfl (sc 93 rfl (sc 94 rfl (sc 95 rfl (sc 96 rfl (sc 97 rfl (sc 98 rfl (sc 99 rfl (sc 100 rfl (sc 101 rfl (sc 102 rfl (sc 103 rfl (sc 104 rfl (sc 105 rfl (sc 106 rfl (sc 107 rfl (sc 108 rfl (sc 109 rfl (sc 110 rfl (sc 111 rfl (sc 112 rfl (sc 113 rfl (sc 114 rfl (sc 115 rfl (sc 116 rfl (sc 117 rfl (sc 118 rfl (sc 119 rfl (sc 120 rfl (sc 121 rfl (sc 122 rfl (sc 123 rfl (sc 124 rfl (sc 125 rfl (sc 126 rfl (sc 127 rfl (sc 128 rfl (sc 129 rfl (sc 130 rfl (sc 131 rfl (sc 132 rfl (sc 133 rfl (sc 134 rfl (sc 135 rfl (sc 136 rfl (sc 137 rfl (sc 138 rfl (sc 139 rfl (sc 140 rfl (sc 141 rfl (sc 142 rfl (sc 143 rfl (sc 144 rfl (sc 169 rfl (sc 170 rfl (sc 194 rfl (sc 195 rfl sn)))))))))))))))))))))))))))))))))))))))))))))))))))))))))))))))))))))))))))) (by kernel_rfl) (cc rfl (p_move g0 (od rfl id))
                    (cc rfl (p_move g0 (od rfl id))
                    (cc rfl (p_move (g1 rfl rfl) (od rfl (fun _ => rfl)))
                    (cc rfl (p_and g0 (od rfl id) (od rfl id))
                    (cc rfl (p_move g0 (od rfl id))
                    (cc rfl (p_fieldAddr pt67_7 fa_67_7 (g1 rfl rfl) (od rfl (fun _ => rfl)))
                    (cc rfl (p_load1 rfl ld_65 (g1 rfl rfl) (od rfl id))
                    (cc rfl (p_move (g1 rfl rfl) (od rfl (fun _ => rfl)))
                    (cc rfl (p_call 101 (g1 rfl rfl) (ox (od rfl id) (ox (od rfl id) ox0)) (fun _ _ => by kernel_rfl) (f101 (hms o (List.mem_of_getElem? eo))))
                    (cc rfl (p_and g0 (od rfl id) (od rfl id))
                    (cc rfl (p_assign g0 (od rfl id)) cn))))))))))) fun a36 w36 b36 s36 => ?_
                have z36 := z35.trans (b36.mono z35.size)
                have s36 := s36.more 4 (y := .bool (obTo c (i + 1))) (bool_as (s36.get 4 rfl) ((ob_go eo hb).trans (show kindO c o (upO c o) = _ from (by simp only [kindO, h143, h169, h194, if_true, if_false, Bool.false_eq_true]))).symm)
                refine flowT (s36.keep (sc 1 rfl (sc 2 rfl (sc 3 rfl (sc 4 rfl (sc 7 rfl (sc 8 rfl (sc 9 rfl (sc 10 rfl (sc 11 rfl (sc 60 rfl (sc 61 rfl (sc 62 rfl (sc 86 rfl (sc 87 rfl (sc 88 rfl (sc 89 rfl (sc 90 rfl (sc 91 rfl (sc 92 rfl (sc 93 rfl (sc 94 rfl (sc 95 rfl (sc 96 rfl (sc 97 rfl (sc 98 rfl (sc 99 rfl (sc 100 rfl (sc 101 rfl (sc 102 rfl (sc 103 rfl (sc 104 rfl (sc 105 rfl (sc 106 rfl (sc 107 rfl (sc 108 rfl (sc 109 rfl (sc 110 rfl (sc 111 rfl (sc 112 rfl (sc 113 rfl (sc 114 rfl (sc 115 rfl (sc 116 rfl (sc 117 rfl (sc 118 rfl (sc 119 rfl (sc 120 rfl (sc 121 rfl (sc 122 rfl (sc 123 rfl (sc 124 rfl (sc 125 rfl (sc 126 rfl (sc 127 rfl (sc 128 rfl (sc 129 rfl (sc 130 rfl (sc 131 rfl (sc 132 rfl (sc 133 rfl (sc 134 rfl (sc 135 rfl (sc 136 rfl (sc 137 rfl (sc 138 rfl (sc 139 rfl (sc 140 rfl (sc 141 rfl (sc 142 rfl (sc 143 rfl (sc 144 rfl (sc 169 rfl (sc 170 rfl (sc 194 rfl (sc 195 rfl (sc 196 rfl (sc 197 rfl (sc 198 rfl (sc 199 rfl (sc 200 rfl (sc 201 rfl (sc 202 rfl (sc 203 rfl (sc 204 rfl (sc 205 rfl sn)))))))))))))))))))))))))))))))))))))))))))))))))))))))))))))))))))))))))))))))))))))) (by kernel_rfl) (cc rfl (p_bin g0 (od rfl id) (oc _) (inc_3 (by omega)))
                    (cc rfl (p_move g0 (od rfl id)) cn)) fun a37 w37 b37 s37 => ?_
                have z37 := z36.trans (b37.mono z36.size)
                exact ⟨hlt2, s37.to _ ⟨rfl, rfl, rfl, rfl, rfl, rfl, rfl, rfl, rfl, rfl, True.intro⟩, z37, True.intro⟩
              · -- false
                refine wp_seq ?_
                refine wp_seq ?_
                refine flowC mixed (s35.keep (sc 1 rfl (sc 2 rfl (sc 3 rfl (sc 4 rfl (sc 7 rfl (sc 8 rfl (sc 9 rfl (sc 10 rfl (sc 11 rfl (sc 60 rfl (sc 61 rfl (sc 62 rfl (sc 86 rfl (sc 87 rfl (sc 88 rfl (sc 89 rfl (sc 90 rfl (sc 91 rfl (sc 92 rfl (sc 93 rfl (sc 94 rfl (sc 95 rfl (sc 96 rfl (sc 97 rfl (sc 98 rfl (sc 99 rfl (sc 100 rfl (sc 101 rfl (sc 102 rfl (sc 103 rfl (sc 104 rfl (sc 105 rfl (sc 106 rfl (sc 107 rfl (sc 108 rfl (sc 109 rfl (sc 110 rfl (sc 111 rfl (sc 112 rfl (sc 113 rfl (sc 114 rfl (sc 115 rfl (sc 116 rfl (sc 117 rfl (sc 118 rfl (sc 119 rfl (sc 120 rfl (sc 121 rfl (sc 122 rfl (sc 123 rfl (sc 124 rfl (sc 125 rfl (sc 126 rfl (sc 127 rfl (sc 128 rfl (sc 129 rfl (sc 130 rfl (sc 131 rfl (sc 132 rfl (sc 133 rfl (sc 134 rfl (sc 135 rfl (sc 136 rfl (sc 137 rfl (sc 138 rfl (sc 139 rfl (sc 140 rfl (sc 141 rfl (sc 142 rfl (sc 143 rfl (sc 144 rfl (sc 169 rfl (sc 170 rfl (sc 194 rfl (sc 195 rfl sn)))))))))))))))))))))))))))))))))))))))))))))))))))))))))))))))))))))))))))) (by kernel_rfl) (by kernel_rfl) (cc rfl (p_bin g0 (od rfl id) (oc _) b_eql_3)
                    (cc rfl (p_assign g0 (od rfl id)) cn)) fun a38 w38 b38 s38 => ?_
                have z38 := z35.trans (b38.mono z35.size)
                refine s38.cond 206 rfl (fun h206 => ?_) (fun h206 => ?_)
                · -- true
                  refine wp_skip ?_
                  refine s38.cond 206 rfl (fun _ => ?_) (fun h => absurd h (by rw [h206]; simp))
                  refine flowT (s38.keep (sc 1 rfl (sc 2 rfl (sc 3 rfl (sc 4 rfl (sc 7 rfl (sc 8 rfl (sc 9 rfl (sc 10 rfl (sc 11 rfl (sc 60 rfl (sc 61 rfl (sc 62 rfl (sc 86 rfl (sc 87 rfl (sc 88 rfl (sc 89 rfl (sc 90 rfl (sc 91 rfl (sc 92 rfl (sc 93 rfl (sc 94 rfl (sc 95 rfl (sc 96 rfl (sc 97 rfl (sc 98 rfl (sc 99 rfl (sc 100 rfl (sc 101 rfl (sc 102 rfl (sc 103 rfl (sc 104 rfl (sc 105 rfl (sc 106 rfl (sc 107 rfl (sc 108 rfl (sc 109 rfl (sc 110 rfl (sc 111 rfl (sc 112 rfl (sc 113 rfl (sc 114 rfl (sc 115 rfl (sc 116 rfl (sc 117 rfl (sc 118 rfl (sc 119 rfl (sc 120 rfl (sc 121 rfl (sc 122 rfl (sc 123 rfl (sc 124 rfl (sc 125 rfl (sc 126 rfl (sc 127 rfl (sc 128 rfl (sc 129 rfl (sc 130 rfl (sc 131 rfl (sc 132 rfl (sc 133 rfl (sc 134 rfl (sc 135 rfl (sc 136 rfl (sc 137 rfl (sc 138 rfl (sc 139 rfl (sc 140 rfl (sc 141 rfl (sc 142 rfl (sc 143 rfl (sc 144 rfl (sc 169 rfl (sc 170 rfl (sc 194 rfl (sc 195 rfl (sc 206 rfl (sc 207 rfl sn)))))))))))))))))))))))))))))))))))))))))))))))))))))))))))))))))))))))))))))) (by kernel_rfl) (cc rfl (p_move g0 (od rfl id))
                      (cc rfl (p_move g0 (od rfl id))
                      (cc rfl (p_fieldAddr pt67_3 fa_67_3 (g1 rfl rfl) (od rfl (fun _ => rfl)))
                      (cc rfl (p_load Try.underlying39 rfl sz_39 (g1 rfl rfl) (od rfl id))
                      (cc rfl (p_call 42 (g1 rfl rfl) (ox (od rfl id) ox0) (fun _ _ => by kernel_rfl) (f42 (by decide)))
                      (cc rfl (p_and g0 (od rfl id) (od rfl id))
                      (cc rfl (p_move g0 (od rfl id))
                      (cc rfl (p_fieldAddr pt67_2 fa_67_2 (g1 rfl rfl) (od rfl (fun _ => rfl)))
                      (cc rfl (p_load Try.underlying39 rfl sz_39 (g1 rfl rfl) (od rfl id))
                      (cc rfl (p_fieldAddr pt67_3 fa_67_3 (g1 rfl rfl) (od rfl (fun _ => rfl)))
                      (cc rfl (p_load Try.underlying39 rfl sz_39 (g1 rfl rfl) (od rfl id))
                      (cc rfl (p_call 83 (g1 rfl rfl) (ox (od rfl id) (ox (od rfl id) ox0)) (fun _ _ => by kernel_rfl) (f83 (by decide)))
                      (cc rfl (p_and g0 (od rfl id) (od rfl id))
                      (cc rfl (p_move g0 (od rfl id))
                      (cc rfl (p_fieldAddr pt67_9 fa_67_9 (g1 rfl rfl) (od rfl (fun _ => rfl)))
                      (cc rfl (p_loadI ld_3 (g1 rfl rfl) (od rfl id))
                      (cc rfl (p_bin (g1 rfl rfl) (od rfl id) (oc _) b_geq_3)
                      (cc rfl (p_and g0 (od rfl id) (od rfl id))
                      (cc rfl (p_move g0 (od rfl id))
                      (cc rfl (p_fieldAddr pt67_9 fa_67_9 (g1 rfl rfl) (od rfl (fun _ => rfl)))
                      (cc rfl (p_loadI ld_3 (g1 rfl rfl) (od rfl id))
                      (cc rfl (p_bin (g1 rfl rfl) (od rfl id) (oc _) b_lss_3)
                      (cc rfl (p_and g0 (od rfl id) (od rfl id))
                      (cc rfl (p_move g0 (od rfl id))
                      (cc rfl (p_fieldAddr pt67_8 fa_67_8 (g1 rfl rfl) (od rfl (fun _ => rfl)))
                      (cc rfl (p_loadI ld_3 (g1 rfl rfl) (od rfl id))
                      (cc rfl (p_bin (g1 rfl rfl) (od rfl id) (oc _) b_geq_3)
                      (cc rfl (p_and g0 (od rfl id) (od rfl id))
                      (cc rfl (p_move g0 (od rfl id))
                      (cc rfl (p_fieldAddr pt67_8 fa_67_8 (g1 rfl rfl) (od rfl (fun _ => rfl)))
                      (cc rfl (p_loadI ld_3 (g1 rfl rfl) (od rfl id))
                      (cc rfl (p_move (g1 rfl rfl) (od rfl (fun _ => rfl)))
                      (cc rfl (p_bin (g1 rfl rfl) (od rfl id) (od rfl id) b_leq_3)
                      (cc rfl (p_and g0 (od rfl id) (od rfl id))
                      (cc rfl (p_assign g0 (od rfl id)) cn))))))))))))))))))))))))))))))))))) fun a39 w39 b39 s39 => ?_
                  have z39 := z38.trans (b39.mono z38.size)
                  have s39 := s39.more 4 (y := .bool (obTo c (i + 1))) (bool_as (s39.get 4 rfl) ((ob_go eo hb).trans (show kindO c o (upO c o) = _ from (by simp only [kindO, h143, h169, h194, h206, if_true, if_false, Bool.false_eq_true]))).symm)
                  refine flowT (s39.keep (sc 1 rfl (sc 2 rfl (sc 3 rfl (sc 4 rfl (sc 7 rfl (sc 8 rfl (sc 9 rfl (sc 10 rfl (sc 11 rfl (sc 60 rfl (sc 61 rfl (sc 62 rfl (sc 86 rfl (sc 87 rfl (sc 88 rfl (sc 89 rfl (sc 90 rfl (sc 91 rfl (sc 92 rfl (sc 93 rfl (sc 94 rfl (sc 95 rfl (sc 96 rfl (sc 97 rfl (sc 98 rfl (sc 99 rfl (sc 100 rfl (sc 101 rfl (sc 102 rfl (sc 103 rfl (sc 104 rfl (sc 105 rfl (sc 106 rfl (sc 107 rfl (sc 108 rfl (sc 109 rfl (sc 110 rfl (sc 111 rfl (sc 112 rfl (sc 113 rfl (sc 114 rfl (sc 115 rfl (sc 116 rfl (sc 117 rfl (sc 118 rfl (sc 119 rfl (sc 120 rfl (sc 121 rfl (sc 122 rfl (sc 123 rfl (sc 124 rfl (sc 125 rfl (sc 126 rfl (sc 127 rfl (sc 128 rfl (sc 129 rfl (sc 130 rfl (sc 131 rfl (sc 132 rfl (sc 133 rfl (sc 134 rfl (sc 135 rfl (sc 136 rfl (sc 137 rfl (sc 138 rfl (sc 139 rfl (sc 140 rfl (sc 141 rfl (sc 142 rfl (sc 143 rfl (sc 144 rfl (sc 169 rfl (sc 170 rfl (sc 194 rfl (sc 195 rfl (sc 206 rfl (sc 207 rfl (sc 209 rfl (sc 210 rfl (sc 211 rfl (sc 212 rfl (sc 213 rfl (sc 214 rfl (sc 215 rfl (sc 216 rfl (sc 217 rfl (sc 218 rfl (sc 219 rfl (sc 220 rfl (sc 221 rfl (sc 222 rfl (sc 223 rfl (sc 224 rfl (sc 225 rfl (sc 226 rfl (sc 227 rfl (sc 228 rfl (sc 229 rfl (sc 230 rfl (sc 231 rfl (sc 232 rfl (sc 233 rfl (sc 234 rfl (sc 235 rfl (sc 236 rfl (sc 237 rfl (sc 238 rfl (sc 239 rfl (sc 240 rfl (sc 241 rfl (sc 242 rfl sn)))))))))))))))))))))))))))))))))))))))))))))))))))))))))))))))))))))))))))))))))))))))))))))))))))))))))))))))) (by kernel_rfl) (cc rfl (p_bin g0 (od rfl id) (oc _) (inc_3 (by omega)))
                      (cc rfl (p_move g0 (od rfl id)) cn)) fun a40 w40 b40 s40 => ?_
                  have z40 := z39.trans (b40.mono z39.size)
                  exact ⟨hlt2, s40.to _ ⟨rfl, rfl, rfl, rfl, rfl, rfl, rfl, rfl, rfl, rfl, True.intro⟩, z40, True.intro⟩
                · -- false
                  refine flowT (s38.keep (sc 1 rfl (sc 2 rfl (sc 3 rfl (sc 4 rfl (sc 7 rfl (sc 8 rfl (sc 9 rfl (sc 10 rfl (sc 11 rfl (sc 60 rfl (sc 61 rfl (sc 62 rfl (sc 86 rfl (sc 87 rfl (sc 88 rfl (sc 89 rfl (sc 90 rfl (sc 91 rfl (sc 92 rfl (sc 93 rfl (sc 94 rfl (sc 95 rfl (sc 96 rfl (sc 97 rfl (sc 98 rfl (sc 99 rfl (sc 100 rfl (sc 101 rfl (sc 102 rfl (sc 103 rfl (sc 104 rfl (sc 105 rfl (sc 106 rfl (sc 107 rfl (sc 108 rfl (sc 109 rfl (sc 110 rfl (sc 111 rfl (sc 112 rfl (sc 113 rfl (sc 114 rfl (sc 115 rfl (sc 116 rfl (sc 117 rfl (sc 118 rfl (sc 119 rfl (sc 120 rfl (sc 121 rfl (sc 122 rfl (sc 123 rfl (sc 124 rfl (sc 125 rfl (sc 126 rfl (sc 127 rfl (sc 128 rfl (sc 129 rfl (sc 130 rfl (sc 131 rfl (sc 132 rfl (sc 133 rfl (sc 134 rfl (sc 135 rfl (sc 136 rfl (sc 137 rfl (sc 138 rfl (sc 139 rfl (sc 140 rfl (sc 141 rfl (sc 142 rfl (sc 143 rfl (sc 144 rfl (sc 169 rfl (sc 170 rfl (sc 194 rfl (sc 195 rfl (sc 206 rfl (sc 207 rfl sn)))))))))))))))))))))))))))))))))))))))))))))))))))))))))))))))))))))))))))))) (by kernel_rfl) (cc rfl (p_bin g0 (od rfl id) (oc _) b_eql_3)
                      (cc rfl (p_assign g0 (od rfl id)) cn)) fun a41 w41 b41 s41 => ?_
                  have z41 := z38.trans (b41.mono z38.size)
                  refine s41.cond 206 rfl (fun h207 => ?_) (fun h207 => ?_)
                  · -- true
                    refine flowT (s41.keep (sc 1 rfl (sc 2 rfl (sc 3 rfl (sc 4 rfl (sc 7 rfl (sc 8 rfl (sc 9 rfl (sc 10 rfl (sc 11 rfl (sc 60 rfl (sc 61 rfl (sc 62 rfl (sc 86 rfl (sc 87 rfl (sc 88 rfl (sc 89 rfl (sc 90 rfl (sc 91 rfl (sc 92 rfl (sc 93 rfl (sc 94 rfl (sc 95 rfl (sc 96 rfl (sc 97 rfl (sc 98 rfl (sc 99 rfl (sc 100 rfl (sc 101 rfl (sc 102 rfl (sc 103 rfl (sc 104 rfl (sc 105 rfl (sc 106 rfl (sc 107 rfl (sc 108 rfl (sc 109 rfl (sc 110 rfl (sc 111 rfl (sc 112 rfl (sc 113 rfl (sc 114 rfl (sc 115 rfl (sc 116 rfl (sc 117 rfl (sc 118 rfl (sc 119 rfl (sc 120 rfl (sc 121 rfl (sc 122 rfl (sc 123 rfl (sc 124 rfl (sc 125 rfl (sc 126 rfl (sc 127 rfl (sc 128 rfl (sc 129 rfl (sc 130 rfl (sc 131 rfl (sc 132 rfl (sc 133 rfl (sc 134 rfl (sc 135 rfl (sc 136 rfl (sc 137 rfl (sc 138 rfl (sc 139 rfl (sc 140 rfl (sc 141 rfl (sc 142 rfl (sc 143 rfl (sc 144 rfl (sc 169 rfl (sc 170 rfl (sc 194 rfl (sc 195 rfl (sc 206 rfl (sc 207 rfl (sc 208 rfl sn))))))))))))))))))))))))))))))))))))))))))))))))))))))))))))))))))))))))))))))) (by kernel_rfl) (cc rfl (p_move g0 (od rfl id))
                        (cc rfl (p_move g0 (od rfl id))
                        (cc rfl (p_fieldAddr pt67_3 fa_67_3 (g1 rfl rfl) (od rfl (fun _ => rfl)))
                        (cc rfl (p_load Try.underlying39 rfl sz_39 (g1 rfl rfl) (od rfl id))
                        (cc rfl (p_call 42 (g1 rfl rfl) (ox (od rfl id) ox0) (fun _ _ => by kernel_rfl) (f42 (by decide)))
                        (cc rfl (p_and g0 (od rfl id) (od rfl id))
                        (cc rfl (p_move g0 (od rfl id))
                        (cc rfl (p_fieldAddr pt67_2 fa_67_2 (g1 rfl rfl) (od rfl (fun _ => rfl)))
                        (cc rfl (p_load Try.underlying39 rfl sz_39 (g1 rfl rfl) (od rfl id))
                        (cc rfl (p_fieldAddr pt67_3 fa_67_3 (g1 rfl rfl) (od rfl (fun _ => rfl)))
                        (cc rfl (p_load Try.underlying39 rfl sz_39 (g1 rfl rfl) (od rfl id))
                        (cc rfl (p_call 83 (g1 rfl rfl) (ox (od rfl id) (ox (od rfl id) ox0)) (fun _ _ => by kernel_rfl) (f83 (by decide)))
                        (cc rfl (p_and g0 (od rfl id) (od rfl id))
                        (cc rfl (p_move g0 (od rfl id))
                        (cc rfl (p_fieldAddr pt67_9 fa_67_9 (g1 rfl rfl) (od rfl (fun _ => rfl)))
                        (cc rfl (p_loadI ld_3 (g1 rfl rfl) (od rfl id))
                        (cc rfl (p_bin (g1 rfl rfl) (od rfl id) (oc _) b_geq_3)
                        (cc rfl (p_and g0 (od rfl id) (od rfl id))
                        (cc rfl (p_move g0 (od rfl id))
                        (cc rfl (p_fieldAddr pt67_9 fa_67_9 (g1 rfl rfl) (od rfl (fun _ => rfl)))
                        (cc rfl (p_loadI ld_3 (g1 rfl rfl) (od rfl id))
                        (cc rfl (p_bin (g1 rfl rfl) (od rfl id) (oc _) b_lss_3)
                        (cc rfl (p_and g0 (od rfl id) (od rfl id))
                        (cc rfl (p_move g0 (od rfl id))
                        (cc rfl (p_fieldAddr pt67_8 fa_67_8 (g1 rfl rfl) (od rfl (fun _ => rfl)))
                        (cc rfl (p_loadI ld_3 (g1 rfl rfl) (od rfl id))
                        (cc rfl (p_bin (g1 rfl rfl) (od rfl id) (oc _) b_geq_3)
                        (cc rfl (p_and g0 (od rfl id) (od rfl id))
                        (cc rfl (p_move g0 (od rfl id))
                        (cc rfl (p_fieldAddr pt67_8 fa_67_8 (g1 rfl rfl) (od rfl (fun _ => rfl)))
                        (cc rfl (p_loadI ld_3 (g1 rfl rfl) (od rfl id))
                        (cc rfl (p_move (g1 rfl rfl) (od rfl (fun _ => rfl)))
                        (cc rfl (p_bin (g1 rfl rfl) (od rfl id) (od rfl id) b_leq_3)
                        (cc rfl (p_and g0 (od rfl id) (od rfl id))
                        (cc rfl (p_assign g0 (od rfl id)) cn))))))))))))))))))))))))))))))))))) fun a42 w42 b42 s42 => ?_
                    have z42 := z41.trans (b42.mono z41.size)
                    have s42 := s42.more 4 (y := .bool (obTo c (i + 1))) (bool_as (s42.get 4 rfl) ((ob_go eo hb).trans (show kindO c o (upO c o) = _ from (by simp only [kindO, h143, h169, h194, h206, h207, if_true, if_false, Bool.false_eq_true]))).symm)
                    refine flowT (s42.keep (sc 1 rfl (sc 2 rfl (sc 3 rfl (sc 4 rfl (sc 7 rfl (sc 8 rfl (sc 9 rfl (sc 10 rfl (sc 11 rfl (sc 60 rfl (sc 61 rfl (sc 62 rfl (sc 86 rfl (sc 87 rfl (sc 88 rfl (sc 89 rfl (sc 90 rfl (sc 91 rfl (sc 92 rfl (sc 93 rfl (sc 94 rfl (sc 95 rfl (sc 96 rfl (sc 97 rfl (sc 98 rfl (sc 99 rfl (sc 100 rfl (sc 101 rfl (sc 102 rfl (sc 103 rfl (sc 104 rfl (sc 105 rfl (sc 106 rfl (sc 107 rfl (sc 108 rfl (sc 109 rfl (sc 110 rfl (sc 111 rfl (sc 112 rfl (sc 113 rfl (sc 114 rfl (sc 115 rfl (sc 116 rfl (sc 117 rfl (sc 118 rfl (sc 119 rfl (sc 120 rfl (sc 121 rfl (sc 122 rfl (sc 123 rfl (sc 124 rfl (sc 125 rfl (sc 126 rfl (sc 127 rfl (sc 128 rfl (sc 129 rfl (sc 130 rfl (sc 131 rfl (sc 132 rfl (sc 133 rfl (sc 134 rfl (sc 135 rfl (sc 136 rfl (sc 137 rfl (sc 138 rfl (sc 139 rfl (sc 140 rfl (sc 141 rfl (sc 142 rfl (sc 143 rfl (sc 144 rfl (sc 169 rfl (sc 170 rfl (sc 194 rfl (sc 195 rfl (sc 206 rfl (sc 207 rfl (sc 208 rfl (sc 209 rfl (sc 210 rfl (sc 211 rfl (sc 212 rfl (sc 213 rfl (sc 214 rfl (sc 215 rfl (sc 216 rfl (sc 217 rfl (sc 218 rfl (sc 219 rfl (sc 220 rfl (sc 221 rfl (sc 222 rfl (sc 223 rfl (sc 224 rfl (sc 225 rfl (sc 226 rfl (sc 227 rfl (sc 228 rfl (sc 229 rfl (sc 230 rfl (sc 231 rfl (sc 232 rfl (sc 233 rfl (sc 234 rfl (sc 235 rfl (sc 236 rfl (sc 237 rfl (sc 238 rfl (sc 239 rfl (sc 240 rfl (sc 241 rfl (sc 242 rfl sn))))))))))))))))))))))))))))))))))))))))))))))))))))))))))))))))))))))))))))))))))))))))))))))))))))))))))))))))) (by kernel_rfl) (cc rfl (p_bin g0 (od rfl id) (oc _) (inc_3 (by omega)))
                        (cc rfl (p_move g0 (od rfl id)) cn)) fun a43 w43 b43 s43 => ?_
                    have z43 := z42.trans (b43.mono z42.size)
                    exact ⟨hlt2, s43.to _ ⟨rfl, rfl, rfl, rfl, rfl, rfl, rfl, rfl, rfl, rfl, True.intro⟩, z43, True.intro⟩
                  · -- false
                    refine wp_seq ?_
                    refine flowC mixed (s41.keep (sc 1 rfl (sc 2 rfl (sc 3 rfl (sc 4 rfl (sc 7 rfl (sc 8 rfl (sc 9 rfl (sc 10 rfl (sc 11 rfl (sc 60 rfl (sc 61 rfl (sc 62 rfl (sc 86 rfl (sc 87 rfl (sc 88 rfl (sc 89 rfl (sc 90 rfl (sc 91 rfl (sc 92 rfl (sc 93 rfl (sc 94 rfl (sc 95 rfl (sc 96 rfl (sc 97 rfl (sc 98 rfl (sc 99 rfl (sc 100 rfl (sc 101 rfl (sc 102 rfl (sc 103 rfl (sc 104 rfl (sc 105 rfl (sc 106 rfl (sc 107 rfl (sc 108 rfl (sc 109 rfl (sc 110 rfl (sc 111 rfl (sc 112 rfl (sc 113 rfl (sc 114 rfl (sc 115 rfl (sc 116 rfl (sc 117 rfl (sc 118 rfl (sc 119 rfl (sc 120 rfl (sc 121 rfl (sc 122 rfl (sc 123 rfl (sc 124 rfl (sc 125 rfl (sc 126 rfl (sc 127 rfl (sc 128 rfl (sc 129 rfl (sc 130 rfl (sc 131 rfl (sc 132 rfl (sc 133 rfl (sc 134 rfl (sc 135 rfl (sc 136 rfl (sc 137 rfl (sc 138 rfl (sc 139 rfl (sc 140 rfl (sc 141 rfl (sc 142 rfl (sc 143 rfl (sc 144 rfl (sc 169 rfl (sc 170 rfl (sc 194 rfl (sc 195 rfl (sc 206 rfl (sc 207 rfl (sc 208 rfl sn))))))))))))))))))))))))))))))))))))))))))))))))))))))))))))))))))))))))))))))) (by kernel_rfl) (by kernel_rfl) (cc rfl (p_bin g0 (od rfl id) (oc _) b_eql_3)
                        (cc rfl (p_assign g0 (od rfl id)) cn)) fun a44 w44 b44 s44 => ?_
                    have z44 := z41.trans (b44.mono z41.size)
                    refine s44.cond 243 rfl (fun h243 => ?_) (fun h243 => ?_)
                    · -- true
                      refine flowT (s44.keep (sc 1 rfl (sc 2 rfl (sc 3 rfl (sc 4 rfl (sc 7 rfl (sc 8 rfl (sc 9 rfl (sc 10 rfl (sc 11 rfl (sc 60 rfl (sc 61 rfl (sc 62 rfl (sc 86 rfl (sc 87 rfl (sc 88 rfl (sc 89 rfl (sc 90 rfl (sc 91 rfl (sc 92 rfl (sc 93 rfl (sc 94 rfl (sc 95 rfl (sc 96 rfl (sc 97 rfl (sc 98 rfl (sc 99 rfl (sc 100 rfl (sc 101 rfl (sc 102 rfl (sc 103 rfl (sc 104 rfl (sc 105 rfl (sc 106 rfl (sc 107 rfl (sc 108 rfl (sc 109 rfl (sc 110 rfl (sc 111 rfl (sc 112 rfl (sc 113 rfl (sc 114 rfl (sc 115 rfl (sc 116 rfl (sc 117 rfl (sc 118 rfl (sc 119 rfl (sc 120 rfl (sc 121 rfl (sc 122 rfl (sc 123 rfl (sc 124 rfl (sc 125 rfl (sc 126 rfl (sc 127 rfl (sc 128 rfl (sc 129 rfl (sc 130 rfl (sc 131 rfl (sc 132 rfl (sc 133 rfl (sc 134 rfl (sc 135 rfl (sc 136 rfl (sc 137 rfl (sc 138 rfl (sc 139 rfl (sc 140 rfl (sc 141 rfl (sc 142 rfl (sc 143 rfl (sc 144 rfl (sc 169 rfl (sc 170 rfl (sc 194 rfl (sc 195 rfl (sc 206 rfl (sc 207 rfl (sc 208 rfl (sc 243 rfl (sc 244 rfl sn))))))))))))))))))))))))))))))))))))))))))))))))))))))))))))))))))))))))))))))))) (by kernel_rfl) (cc rfl (p_move g0 (od rfl id))
                          (cc rfl (p_move g0 (od rfl id))
                          (cc rfl (p_move (g1 rfl rfl) (od rfl (fun _ => rfl)))
                          (cc rfl (p_and g0 (od rfl id) (od rfl id))
                          (cc rfl (p_assign g0 (od rfl id)) cn))))) fun a45 w45 b45 s45 => ?_
                      have z45 := z44.trans (b45.mono z44.size)
                      have s45 := s45.more 4 (y := .bool (obTo c (i + 1))) (bool_as (s45.get 4 rfl) ((ob_go eo hb).trans (show kindO c o (upO c o) = _ from (by simp only [kindO, h143, h169, h194, h206, h207, h243, if_true, if_false, Bool.false_eq_true]))).symm)
                      refine flowT (s45.keep (sc 1 rfl (sc 2 rfl (sc 3 rfl (sc 4 rfl (sc 7 rfl (sc 8 rfl (sc 9 rfl (sc 10 rfl (sc 11 rfl (sc 60 rfl (sc 61 rfl (sc 62 rfl (sc 86 rfl (sc 87 rfl (sc 88 rfl (sc 89 rfl (sc 90 rfl (sc 91 rfl (sc 92 rfl (sc 93 rfl (sc 94 rfl (sc 95 rfl (sc 96 rfl (sc 97 rfl (sc 98 rfl (sc 99 rfl (sc 100 rfl (sc 101 rfl (sc 102 rfl (sc 103 rfl (sc 104 rfl (sc 105 rfl (sc 106 rfl (sc 107 rfl (sc 108 rfl (sc 109 rfl (sc 110 rfl (sc 111 rfl (sc 112 rfl (sc 113 rfl (sc 114 rfl (sc 115 rfl (sc 116 rfl (sc 117 rfl (sc 118 rfl (sc 119 rfl (sc 120 rfl (sc 121 rfl (sc 122 rfl (sc 123 rfl (sc 124 rfl (sc 125 rfl (sc 126 rfl (sc 127 rfl (sc 128 rfl (sc 129 rfl (sc 130 rfl (sc 131 rfl (sc 132 rfl (sc 133 rfl (sc 134 rfl (sc 135 rfl (sc 136 rfl (sc 137 rfl (sc 138 rfl (sc 139 rfl (sc 140 rfl (sc 141 rfl (sc 142 rfl (sc 143 rfl (sc 144 rfl (sc 169 rfl (sc 170 rfl (sc 194 rfl (sc 195 rfl (sc 206 rfl (sc 207 rfl (sc 208 rfl (sc 243 rfl (sc 244 rfl (sc 245 rfl (sc 246 rfl (sc 247 rfl (sc 248 rfl sn))))))))))))))))))))))))))))))))))))))))))))))))))))))))))))))))))))))))))))))))))))) (by kernel_rfl) (cc rfl (p_bin g0 (od rfl id) (oc _) (inc_3 (by omega)))
                          (cc rfl (p_move g0 (od rfl id)) cn)) fun a46 w46 b46 s46 => ?_
                      have z46 := z45.trans (b46.mono z45.size)
                      exact ⟨hlt2, s46.to _ ⟨rfl, rfl, rfl, rfl, rfl, rfl, rfl, rfl, rfl, rfl, True.intro⟩, z46, True.intro⟩
                    · -- false
                      refine wp_seq ?_
                      refine flowT (s44.keep (sc 1 rfl (sc 2 rfl (sc 3 rfl (sc 4 rfl (sc 7 rfl (sc 8 rfl (sc 9 rfl (sc 10 rfl (sc 11 rfl (sc 60 rfl (sc 61 rfl (sc 62 rfl (sc 86 rfl (sc 87 rfl (sc 88 rfl (sc 89 rfl (sc 90 rfl (sc 91 rfl (sc 92 rfl (sc 93 rfl (sc 94 rfl (sc 95 rfl (sc 96 rfl (sc 97 rfl (sc 98 rfl (sc 99 rfl (sc 100 rfl (sc 101 rfl (sc 102 rfl (sc 103 rfl (sc 104 rfl (sc 105 rfl (sc 106 rfl (sc 107 rfl (sc 108 rfl (sc 109 rfl (sc 110 rfl (sc 111 rfl (sc 112 rfl (sc 113 rfl (sc 114 rfl (sc 115 rfl (sc 116 rfl (sc 117 rfl (sc 118 rfl (sc 119 rfl (sc 120 rfl (sc 121 rfl (sc 122 rfl (sc 123 rfl (sc 124 rfl (sc 125 rfl (sc 126 rfl (sc 127 rfl (sc 128 rfl (sc 129 rfl (sc 130 rfl (sc 131 rfl (sc 132 rfl (sc 133 rfl (sc 134 rfl (sc 135 rfl (sc 136 rfl (sc 137 rfl (sc 138 rfl (sc 139 rfl (sc 140 rfl (sc 141 rfl (sc 142 rfl (sc 143 rfl (sc 144 rfl (sc 169 rfl (sc 170 rfl (sc 194 rfl (sc 195 rfl (sc 206 rfl (sc 207 rfl (sc 208 rfl (sc 243 rfl (sc 244 rfl sn))))))))))))))))))))))))))))))))))))))))))))))))))))))))))))))))))))))))))))))))) (by kernel_rfl) (cc rfl (p_assign g0 (oc _)) cn) fun a47 w47 b47 s47 => ?_
                      have z47 := z44.trans (b47.mono z44.size)
                      have s47 := s47.more 2 (y := .bool (rightD c)) (bool_as (s47.get 2 rfl) (ob_false ((ob_go eo hb).trans (show kindO c o (upO c o) = _ from (by simp only [kindO, h143, h169, h194, h206, h207, h243, if_false, Bool.false_eq_true]))) hlt2).symm)
                      exact wp_ret (ret_tmp (fn := Try.f47) s47 2 rfl rfl (fun _ h => h) z47)
        · -- false
          have hpos : ¬ 0 < o.par := of_decide_eq_false h110
          refine wp_skip ?_
          refine wp_seq ?_
          have s20 := s20.less (F' := F) (fun _ h => .inl h)
          have hL9 := (labL 12).mono hL9 (.refl _ _) (F' := F) (fun _ _ h => .inl h)
          have s20 := s20.more 9 (y := .at (labL 12) ⟨2, []⟩) (by rw [show _ = _ from s20.get 9 rfl]; exact at_of_blk k9 hL9 (fun o hf => Nat.lt_irrefl _ (hFg (g9, o) hf)))
          refine flowC mixed (s20.keep (sc 1 rfl (sc 2 rfl (sc 3 rfl (sc 4 rfl (sc 7 rfl (sc 8 rfl (sc 9 rfl (sc 60 rfl (sc 61 rfl (sc 62 rfl (sc 86 rfl (sc 87 rfl (sc 88 rfl (sc 89 rfl (sc 90 rfl (sc 91 rfl (sc 92 rfl (sc 93 rfl (sc 94 rfl (sc 95 rfl (sc 96 rfl (sc 97 rfl (sc 98 rfl (sc 99 rfl (sc 100 rfl (sc 101 rfl (sc 102 rfl (sc 103 rfl (sc 104 rfl (sc 105 rfl (sc 106 rfl (sc 107 rfl (sc 108 rfl (sc 109 rfl (sc 110 rfl sn)))))))))))))))))))))))))))))))))))) (by kernel_rfl) (by kernel_rfl) (cc rfl (p_fieldAddr pt67_2 fa_67_2 g0 (od rfl id))
              (cc rfl (p_load Try.underlying39 rfl sz_39 g0 (od rfl id))
              (cc rfl (p_call 80 g0 (ox (od rfl id) ox0) (fun _ _ => by kernel_rfl) (f80 (by decide)))
              (cc rfl (p_len ln_75 g0 (od rfl id))
              (cc rfl (p_bin g0 (od rfl id) (oc _) b_eql_3)
              (cc rfl (p_assign g0 (od rfl id)) cn)))))) fun a48 w48 b48 s48 => ?_
          have z48 := z20.trans (b48.mono z20.size)
          have s48 := s48.more 11 (y := .bool (plainB o.lab)) (s48.get 11 rfl)
          refine wp_seq ?_
          refine flowR 13 mixed (s48.keep (sc 1 rfl (sc 2 rfl (sc 3 rfl (sc 4 rfl (sc 7 rfl (sc 8 rfl (sc 9 rfl (sc 11 rfl (sc 60 rfl (sc 61 rfl (sc 62 rfl (sc 86 rfl (sc 87 rfl (sc 88 rfl (sc 89 rfl (sc 90 rfl (sc 91 rfl (sc 92 rfl (sc 93 rfl (sc 94 rfl (sc 95 rfl (sc 96 rfl (sc 97 rfl (sc 98 rfl (sc 99 rfl (sc 100 rfl (sc 101 rfl (sc 102 rfl (sc 103 rfl (sc 104 rfl (sc 105 rfl (sc 106 rfl (sc 107 rfl (sc 108 rfl (sc 109 rfl (sc 110 rfl (sc 123 rfl (sc 124 rfl (sc 125 rfl (sc 126 rfl (sc 127 rfl sn)))))))))))))))))))))))))))))))))))))))))) (by kernel_rfl) (by kernel_rfl) (cc rfl (p_move g0 (od rfl id))
              (cc rfl (p_move g0 (od rfl id))
              (cc rfl (p_fieldAddr pt67_2 fa_67_2 (g1 rfl rfl) (od rfl (fun _ => rfl)))
              (cc rfl (p_load Try.underlying39 rfl sz_39 (g1 rfl rfl) (od rfl id))
              (cc rfl (p_call 42 (g1 rfl rfl) (ox (od rfl id) ox0) (fun _ _ => by kernel_rfl) (f42 (by decide)))
              (cc rfl (p_and g0 (od rfl id) (od rfl id))
              (cc rfl (p_move g0 (od rfl id))
              (cc rfl (p_load Try.underlying39 rfl sz_39 (g1 rfl rfl) (od rfl (fun _ => rfl)))
              (cc rfl (p_fieldAddr pt67_2 fa_67_2 (g1 rfl rfl) (od rfl (fun _ => rfl)))
              (cc rfl (p_load Try.underlying39 rfl sz_39 (g1 rfl rfl) (od rfl id))
              (cc rfl (p_call 77 (g1 rfl rfl) (ox (od rfl id) ox0) (fun _ _ => by kernel_rfl) (f77 (by decide)))
              (cc rfl (p_call 83 (g1 rfl rfl) (ox (od rfl id) (ox (od rfl id) ox0)) (fun _ _ => by kernel_rfl) (f83 (by decide)))
              (cc rfl (p_and g0 (od rfl id) (od rfl id)) cn))))))))))))) fun a49 w49 b49 s49 => ?_
          have z49 := z48.trans (b49.mono z48.size)
          refine chainT (t := []) (cc rfl (p_assign g0 (od rfl id)) cn) (by kernel_rfl) s49 fun a50 w50 b50 s50 => wpList_done ?_
          have z50 := z49.trans (b50.mono z49.size)
          have s50 := s50.more 4 (y := .bool (upO c o)) (bool_as (s50.get 4 rfl) (up_no hpos).symm)
          refine wp_seq ?_
          refine flowC mixed (s50.keep (sc 1 rfl (sc 2 rfl (sc 3 rfl (sc 4 rfl (sc 7 rfl (sc 8 rfl (sc 9 rfl (sc 11 rfl (sc 60 rfl (sc 61 rfl (sc 62 rfl (sc 86 rfl (sc 87 rfl (sc 88 rfl (sc 89 rfl (sc 90 rfl (sc 91 rfl (sc 92 rfl (sc 93 rfl (sc 94 rfl (sc 95 rfl (sc 96 rfl (sc 97 rfl (sc 98 rfl (sc 99 rfl (sc 100 rfl (sc 101 rfl (sc 102 rfl (sc 103 rfl (sc 104 rfl (sc 105 rfl (sc 106 rfl (sc 107 rfl (sc 108 rfl (sc 109 rfl (sc 110 rfl (sc 123 rfl (sc 124 rfl (sc 125 rfl (sc 126 rfl (sc 127 rfl (sc 128 rfl (sc 129 rfl (sc 130 rfl (sc 131 rfl (sc 132 rfl (sc 133 rfl (sc 134 rfl (sc 135 rfl (sc 136 rfl (sc 137 rfl (sc 138 rfl (sc 139 rfl (sc 140 rfl sn))))))))))))))))))))))))))))))))))))))))))))))))))))))) (by kernel_rfl) (by kernel_rfl) (cc rfl (p_fieldAddr pt67_0 fa_67_0 g0 (od rfl id))
              (cc rfl (p_loadI ld_3 g0 (od rfl id)) cn)) fun a51 w51 b51 s51 => ?_
          have z51 := z50.trans (b51.mono z50.size)
          refine wp_block ?_
          refine wp_seq ?_
          refine flowC mixed (s51.keep (sc 1 rfl (sc 2 rfl (sc 3 rfl (sc 4 rfl (sc 7 rfl (sc 8 rfl (sc 9 rfl (sc 11 rfl (sc 60 rfl (sc 61 rfl (sc 62 rfl (sc 86 rfl (sc 87 rfl (sc 88 rfl (sc 89 rfl (sc 90 rfl (sc 91 rfl (sc 92 rfl (sc 93 rfl (sc 94 rfl (sc 95 rfl (sc 96 rfl (sc 97 rfl (sc 98 rfl (sc 99 rfl (sc 100 rfl (sc 101 rfl (sc 102 rfl (sc 103 rfl (sc 104 rfl (sc 105 rfl (sc 106 rfl (sc 107 rfl (sc 108 rfl (sc 109 rfl (sc 110 rfl (sc 123 rfl (sc 124 rfl (sc 125 rfl (sc 126 rfl (sc 127 rfl (sc 128 rfl (sc 129 rfl (sc 130 rfl (sc 131 rfl (sc 132 rfl (sc 133 rfl (sc 134 rfl (sc 135 rfl (sc 136 rfl (sc 137 rfl (sc 138 rfl (sc 139 rfl (sc 140 rfl (sc 141 rfl (sc 142 rfl sn))))))))))))))))))))))))))))))))))))))))))))))))))))))))) (by kernel_rfl) (by kernel_rfl) (cc rfl (p_bin g0 (od rfl id) (oc _) b_eql_3)
              (cc rfl (p_assign g0 (od rfl id)) cn)) fun a52 w52 b52 s52 => ?_
          have z52 := z51.trans (b52.mono z51.size)
          refine s52.cond 143 rfl (fun h143 => ?_) (fun h143 => ?_)
          · -- true
            refine flowT (s52.keep (sc 1 rfl (sc 2 rfl (sc 3 rfl (sc 4 rfl (sc 7 rfl (sc 8 rfl (sc 9 rfl (sc 11 rfl (sc 60 rfl (sc 61 rfl (sc 62 rfl (sc 86 rfl (sc 87 rfl (sc 88 rfl (sc 89 rfl (sc 90 rfl (sc 91 rfl (sc 92 rfl (sc 93 rfl (sc 94 rfl (sc 95 rfl (sc 96 rfl (sc 97 rfl (sc 98 rfl (sc 99 rfl (sc 100 rfl (sc 101 rfl (sc 102 rfl (sc 103 rfl (sc 104 rfl (sc 105 rfl (sc 106 rfl (sc 107 rfl (sc 108 rfl (sc 109 rfl (sc 110 rfl (sc 123 rfl (sc 124 rfl (sc 125 rfl (sc 126 rfl (sc 127 rfl (sc 128 rfl (sc 129 rfl (sc 130 rfl (sc 131 rfl (sc 132 rfl (sc 133 rfl (sc 134 rfl (sc 135 rfl (sc 136 rfl (sc 137 rfl (sc 138 rfl (sc 139 rfl (sc 140 rfl (sc 141 rfl (sc 142 rfl (sc 143 rfl (sc 144 rfl sn))))))))))))))))))))))))))))))))))))))))))))))))))))))))))) (by kernel_rfl) (cc rfl (p_move g0 (od rfl id))
                (cc rfl (p_move g0 (od rfl id))
                (cc rfl (p_move (g1 rfl rfl) (od rfl (fun _ => rfl)))
                (cc rfl (p_and g0 (od rfl id) (od rfl id))
                (cc rfl (p_move g0 (od rfl id))
                (cc rfl (p_fieldAddr pt67_4 fa_67_4 (g1 rfl rfl) (od rfl (fun _ => rfl)))
                (cc rfl (p_loadI ld_3 (g1 rfl rfl) (od rfl id))
                (cc rfl (p_bin (g1 rfl rfl) (od rfl id) (oc _) b_geq_3)
                (cc rfl (p_and g0 (od rfl id) (od rfl id))
                (cc rfl (p_move g0 (od rfl id))
                (cc rfl (p_fieldAddr pt67_4 fa_67_4 (g1 rfl rfl) (od rfl (fun _ => rfl)))
                (cc rfl (p_loadI ld_3 (g1 rfl rfl) (od rfl id))
                (cc rfl (p_bin (g1 rfl rfl) (od rfl id) (oc _) b_leq_3)
                (cc rfl (p_and g0 (od rfl id) (od rfl id))
                (cc rfl (p_move g0 (od rfl id))
                (cc rfl (p_fieldAddr pt67_5 fa_67_5 (g1 rfl rfl) (od rfl (fun _ => rfl)))
                (cc rfl (p_loadI ld_3 (g1 rfl rfl) (od rfl id))
                (cc rfl (p_bin (g1 rfl rfl) (od rfl id) (oc _) b_geq_3)
                (cc rfl (p_and g0 (od rfl id) (od rfl id))
                (cc rfl (p_move g0 (od rfl id))
                (cc rfl (p_fieldAddr pt67_5 fa_67_5 (g1 rfl rfl) (od rfl (fun _ => rfl)))
                (cc rfl (p_loadI ld_3 (g1 rfl rfl) (od rfl id))
                (cc rfl (p_bin (g1 rfl rfl) (od rfl id) (oc _) b_leq_3)
                (cc rfl (p_and g0 (od rfl id) (od rfl id))
                (cc rfl (p_assign g0 (od rfl id)) cn))))))))))))))))))))))))) fun a53 w53 b53 s53 => ?_
            have z53 := z52.trans (b53.mono z52.size)
            have s53 := s53.more 4 (y := .bool (obTo c (i + 1))) (bool_as (s53.get 4 rfl) ((ob_go eo hb).trans (show kindO c o (upO c o) = _ from (by simp only [kindO, h143, if_true]))).symm)
            refine flowT (s53.keep (sc 1 rfl (sc 2 rfl (sc 3 rfl (sc 4 rfl (sc 7 rfl (sc 8 rfl (sc 9 rfl (sc 11 rfl (sc 60 rfl (sc 61 rfl (sc 62 rfl (sc 86 rfl (sc 87 rfl (sc 88 rfl (sc 89 rfl (sc 90 rfl (sc 91 rfl (sc 92 rfl (sc 93 rfl (sc 94 rfl (sc 95 rfl (sc 96 rfl (sc 97 rfl (sc 98 rfl (sc 99 rfl (sc 100 rfl (sc 101 rfl (sc 102 rfl (sc 103 rfl (sc 104 rfl (sc 105 rfl (sc 106 rfl (sc 107 rfl (sc 108 rfl (sc 109 rfl (sc 110 rfl (sc 123 rfl (sc 124 rfl (sc 125 rfl (sc 126 rfl (sc 127 rfl (sc 128 rfl (sc 129 rfl (sc 130 rfl (sc 131 rfl (sc 132 rfl (sc 133 rfl (sc 134 rfl (sc 135 rfl (sc 136 rfl (sc 137 rfl (sc 138 rfl (sc 139 rfl (sc 140 rfl (sc 141 rfl (sc 142 rfl (sc 143 rfl (sc 144 rfl (sc 145 rfl (sc 146 rfl (sc 147 rfl (sc 148 rfl (sc 149 rfl (sc 150 rfl (sc 151 rfl (sc 152 rfl (sc 153 rfl (sc 154 rfl (sc 155 rfl (sc 156 rfl (sc 157 rfl (sc 158 rfl (sc 159 rfl (sc 160 rfl (sc 161 rfl (sc 162 rfl (sc 163 rfl (sc 164 rfl (sc 165 rfl (sc 166 rfl (sc 167 rfl (sc 168 rfl sn))))))))))))))))))))))))))))))))))))))))))))))))))))))))))))))))))))))))))))))))))) (by kernel_rfl) (cc rfl (p_bin g0 (od rfl id) (oc _) (inc_3 (by omega)))
                (cc rfl (p_move g0 (od rfl id)) cn)) fun a54 w54 b54 s54 => ?_
            have z54 := z53.trans (b54.mono z53.size)
            exact ⟨hlt2, s54.to _ ⟨rfl, rfl, rfl, rfl, rfl, rfl, rfl, rfl, rfl, rfl, True.intro⟩, z54, True.intro⟩
          · -- false
            refine wp_seq ?_
            refine flowC mixed (s52.keep (sc 1 rfl (sc 2 rfl (sc 3 rfl (sc 4 rfl (sc 7 rfl (sc 8 rfl (sc 9 rfl (sc 11 rfl (sc 60 rfl (sc 61 rfl (sc 62 rfl (sc 86 rfl (sc 87 rfl (sc 88 rfl (sc 89 rfl (sc 90 rfl (sc 91 rfl (sc 92 rfl (sc 93 rfl (sc 94 rfl (sc 95 rfl (sc 96 rfl (sc 97 rfl (sc 98 rfl (sc 99 rfl (sc 100 rfl (sc 101 rfl (sc 102 rfl (sc 103 rfl (sc 104 rfl (sc 105 rfl (sc 106 rfl (sc 107 rfl (sc 108 rfl (sc 109 rfl (sc 110 rfl (sc 123 rfl (sc 124 rfl (sc 125 rfl (sc 126 rfl (sc 127 rfl (sc 128 rfl (sc 129 rfl (sc 130 rfl (sc 131 rfl (sc 132 rfl (sc 133 rfl (sc 134 rfl (sc 135 rfl (sc 136 rfl (sc 137 rfl (sc 138 rfl (sc 139 rfl (sc 140 rfl (sc 141 rfl (sc 142 rfl (sc 143 rfl (sc 144 rfl sn))))))))))))))))))))))))))))))))))))))))))))))))))))))))))) (by kernel_rfl) (by kernel_rfl) (cc rfl (p_bin g0 (od rfl id) (oc _) b_eql_3)
                (cc rfl (p_assign g0 (od rfl id)) cn)) fun a55 w55 b55 s55 => ?_
            have z55 := z52.trans (b55.mono z52.size)
            refine s55.cond 169 rfl (fun h169 => ?_) (fun h169 => ?_)
            · -- true
              refine flowT (s55.keep (sc 1 rfl (sc 2 rfl (sc 3 rfl (sc 4 rfl (sc 7 rfl (sc 8 rfl (sc 9 rfl (sc 11 rfl (sc 60 rfl (sc 61 rfl (sc 62 rfl (sc 86 rfl (sc 87 rfl (sc 88 rfl (sc 89 rfl (sc 90 rfl (sc 91 rfl (sc 92 rfl (sc 93 rfl (sc 94 rfl (sc 95 rfl (sc 96 rfl (sc 97 rfl (sc 98 rfl (sc 99 rfl (sc 100 rfl (sc 101 rfl (sc 102 rfl (sc 103 rfl (sc 104 rfl (sc 105 rfl (sc 106 rfl (sc 107 rfl (sc 108 rfl (sc 109 rfl (sc 110 rfl (sc 123 rfl (sc 124 rfl (sc 125 rfl (sc 126 rfl (sc 127 rfl (sc 128 rfl (sc 129 rfl (sc 130 rfl (sc 131 rfl (sc 132 rfl (sc 133 rfl (sc 134 rfl (sc 135 rfl (sc 136 rfl (sc 137 rfl (sc 138 rfl (sc 139 rfl (sc 140 rfl (sc 141 rfl (sc 142 rfl (sc 143 rfl (sc 144 rfl (sc 169 rfl (sc 170 rfl sn))))))))))))))))))))))))))))))))))))))))))))))))))))))))))))) (by kernel_rfl) (cc rfl (p_move g0 (od rfl id))
                  (cc rfl (p_move g0 (od rfl id))
                  (cc rfl (p_move (g1 rfl rfl) (od rfl (fun _ => rfl)))
                  (cc rfl (p_and g0 (od rfl id) (od rfl id))
                  (cc rfl (p_move g0 (od rfl id))
                  (cc rfl (p_fieldAddr pt67_4 fa_67_4 (g1 rfl rfl) (od rfl (fun _ => rfl)))
                  (cc rfl (p_loadI ld_3 (g1 rfl rfl) (od rfl id))
                  (cc rfl (p_bin (g1 rfl rfl) (od rfl id) (oc _) b_geq_3)
                  (cc rfl (p_and g0 (od rfl id) (od rfl id))
                  (cc rfl (p_move g0 (od rfl id))
                  (cc rfl (p_fieldAddr pt67_4 fa_67_4 (g1 rfl rfl) (od rfl (fun _ => rfl)))
                  (cc rfl (p_loadI ld_3 (g1 rfl rfl) (od rfl id))
                  (cc rfl (p_bin (g1 rfl rfl) (od rfl id) (oc _) b_leq_3)
                  (cc rfl (p_and g0 (od rfl id) (od rfl id))
                  (cc rfl (p_move g0 (od rfl id))
                  (cc rfl (p_fieldAddr pt67_6 fa_67_6 (g1 rfl rfl) (od rfl (fun _ => rfl)))
                  (cc rfl (p_load1 rfl ld_22 (g1 rfl rfl) (od rfl id))
                  (cc rfl (p_len ln_22 (g1 rfl rfl) (od rfl id))
                  (cc rfl (p_fieldAddr pt67_4 fa_67_4 (g1 rfl rfl) (od rfl (fun _ => rfl)))
                  (cc rfl (p_loadI ld_3 (g1 rfl rfl) (od rfl id))
                  (cc rfl (p_bin (g1 rfl rfl) (oc _) (od rfl id) b_mul_3)
                  (cc rfl (p_bin (g1 rfl rfl) (od rfl id) (od rfl id) b_leq_3)
                  (cc rfl (p_and g0 (od rfl id) (od rfl id))
                  (cc rfl (p_assign g0 (od rfl id)) cn)))))))))))))))))))))))) fun a56 w56 b56 s56 => ?_
              have z56 := z55.trans (b56.mono z55.size)
              have s56 := s56.more 4 (y := .bool (obTo c (i + 1))) (bool_as (s56.get 4 rfl) ((ob_go eo hb).trans (show kindO c o (upO c o) = _ from (by simp only [kindO, h143, h169, if_true, if_false, Bool.false_eq_true]))).symm)
              refine flowT (s56.keep (sc 1 rfl (sc 2 rfl (sc 3 rfl (sc 4 rfl (sc 7 rfl (sc 8 rfl (sc 9 rfl (sc 11 rfl (sc 60 rfl (sc 61 rfl (sc 62 rfl (sc 86 rfl (sc 87 rfl (sc 88 rfl (sc 89 rfl (sc 90 rfl (sc 91 rfl (sc 92 rfl (sc 93 rfl (sc 94 rfl (sc 95 rfl (sc 96 rfl (sc 97 rfl (sc 98 rfl (sc 99 rfl (sc 100 rfl (sc 101 rfl (sc 102 rfl (sc 103 rfl (sc 104 rfl (sc 105 rfl (sc 106 rfl (sc 107 rfl (sc 108 rfl (sc 109 rfl (sc 110 rfl (sc 123 rfl (sc 124 rfl (sc 125 rfl (sc 126 rfl (sc 127 rfl (sc 128 rfl (sc 129 rfl (sc 130 rfl (sc 131 rfl (sc 132 rfl (sc 133 rfl (sc 134 rfl (sc 135 rfl (sc 136 rfl (sc 137 rfl (sc 138 rfl (sc 139 rfl (sc 140 rfl (sc 141 rfl (sc 142 rfl (sc 143 rfl (sc 144 rfl (sc 169 rfl (sc 170 rfl (sc 171 rfl (sc 172 rfl (sc 173 rfl (sc 174 rfl (sc 175 rfl (sc 176 rfl (sc 177 rfl (sc 178 rfl (sc 179 rfl (sc 180 rfl (sc 181 rfl (sc 182 rfl (sc 183 rfl (sc 184 rfl (sc 185 rfl (sc 186 rfl (sc 187 rfl (sc 188 rfl (sc 189 rfl (sc 190 rfl (sc 191 rfl (sc 192 rfl (sc 193 rfl sn)))))))))))))))))))))))))))))))))))))))))))))))))))))))))))))))))))))))))))))))))))) (by kernel_rfl) (cc rfl (p_bin g0 (od rfl id) (oc _) (inc_3 (by omega)))
                  (cc rfl (p_move g0 (od rfl id)) cn)) fun a57 w57 b57 s57 => ?_
              have z57 := z56.trans (b57.mono z56.size)
              exact ⟨hlt2, s57.to _ ⟨rfl, rfl, rfl, rfl, rfl, rfl, rfl, rfl, rfl, rfl, True.intro⟩, z57, True.intro⟩
            · -- false
              refine wp_seq ?_
              refine flowC mixed (s55.keep (sc 1 rfl (sc 2 rfl (sc 3 rfl (sc 4 rfl (sc 7 rfl (sc 8 rfl (sc 9 rfl (sc 11 rfl (sc 60 rfl (sc 61 rfl (sc 62 rfl (sc 86 rfl (sc 87 rfl (sc 88 rfl (sc 89 rfl (sc 90 rfl (sc 91 rfl (sc 92 rfl (sc 93 rfl (sc 94 rfl (sc 95 rfl (sc 96 rfl (sc 97 rfl (sc 98 rfl (sc 99 rfl (sc 100 rfl (sc 101 rfl (sc 102 rfl (sc 103 rfl (sc 104 rfl (sc 105 rfl (sc 106 rfl (sc 107 rfl (sc 108 rfl (sc 109 rfl (sc 110 rfl (sc 123 rfl (sc 124 rfl (sc 125 rfl (sc 126 rfl (sc 127 rfl (sc 128 rfl (sc 129 rfl (sc 130 rfl (sc 131 rfl (sc 132 rfl (sc 133 rfl (sc 134 rfl (sc 135 rfl (sc 136 rfl (sc 137 rfl (sc 138 rfl (sc 139 rfl (sc 140 rfl (sc 141 rfl (sc 142 rfl (sc 143 rfl (sc 144 rfl (sc 169 rfl (sc 170 rfl sn))))))))))))))))))))))))))))))))))))))))))))))))))))))))))))) (by kernel_rfl) (by kernel_rfl) (cc rfl (p_bin g0 (od rfl id) (oc _) b_eql_3)
                  (cc rfl (p_assign g0 (od rfl id)) cn)) fun a58 w58 b58 s58 => ?_
              have z58 := z55.trans (b58.mono z55.size)
              refine s58.cond 194 rfl (fun h194 => ?_) (fun h194 => ?_)
              · -- true
                refine flowT (s58.keep (sc 1 rfl (sc 2 rfl (sc 3 rfl (sc 4 rfl (sc 7 rfl (sc 8 rfl (sc 9 rfl (sc 11 rfl (sc 60 rfl (sc 61 rfl (sc 62 rfl (sc 86 rfl (sc 87 rfl (sc 88 rfl (sc 89 rfl (sc 90 rfl (sc 91 rfl (sc 92 rfl (sc 93 rfl (sc 94 rfl (sc 95 rfl (sc 96 rfl (sc 97 rfl (sc 98 rfl (sc 99 rfl (sc 100 rfl (sc 101 rfl (sc 102 rfl (sc 103 rfl (sc 104 rfl (sc 105 rfl (sc 106 rfl (sc 107 rfl (sc 108 rfl (sc 109 rfl (sc 110 rfl (sc 123 rfl (sc 124 rfl (sc 125 rfl (sc 126 rfl (sc 127 rfl (sc 128 rfl (sc 129 rfl (sc 130 rfl (sc 131 rfl (sc 132 rfl (sc 133 rfl (sc 134 rfl (sc 135 rfl (sc 136 rfl (sc 137 rfl (sc 138 rfl (sc 139 rfl (sc 140 rfl (sc 141 rfl (sc 142 rfl (sc 143 rfl (sc 144 rfl (sc 169 rfl (sc 170 rfl (sc 194 rfl (sc 195 rfl sn))))))))))))))))))))))))))))))))))))))))))))))))))))))))))))))) (by kernel_rfl) (cc rfl (p_move g0 (od rfl id))
                    (cc rfl (p_move g0 (od rfl id))
                    (cc rfl (p_move (g1 rfl rfl) (od rfl (fun _ => rfl)))
                    (cc rfl (p_and g0 (od rfl id) (od rfl id))
                    (cc rfl (p_move g0 (od rfl id))
                    (cc rfl (p_fieldAddr pt67_7 fa_67_7 (g1 rfl rfl) (od rfl (fun _ => rfl)))
                    (cc rfl (p_load1 rfl ld_65 (g1 rfl rfl) (od rfl id))
                    (cc rfl (p_move (g1 rfl rfl) (od rfl (fun _ => rfl)))
                    (cc rfl (p_call 101 (g1 rfl rfl) (ox (od rfl id) (ox (od rfl id) ox0)) (fun _ _ => by kernel_rfl) (f101 (hms o (List.mem_of_getElem? eo))))
                    (cc rfl (p_and g0 (od rfl id) (od rfl id))
                    (cc rfl (p_assign g0 (od rfl id)) cn))))))))))) fun a59 w59 b59 s59 => ?_
                have z59 := z58.trans (b59.mono z58.size)
                have s59 := s59.more 4 (y := .bool (obTo c (i + 1))) (bool_as (s59.get 4 rfl) ((ob_go eo hb).trans (show kindO c o (upO c o) = _ from (by simp only [kindO, h143, h169, h194, if_true, if_false, Bool.false_eq_true]))).symm)
                refine flowT (s59.keep (sc 1 rfl (sc 2 rfl (sc 3 rfl (sc 4 rfl (sc 7 rfl (sc 8 rfl (sc 9 rfl (sc 11 rfl (sc 60 rfl (sc 61 rfl (sc 62 rfl (sc 86 rfl (sc 87 rfl (sc 88 rfl (sc 89 rfl (sc 90 rfl (sc 91 rfl (sc 92 rfl (sc 93 rfl (sc 94 rfl (sc 95 rfl (sc 96 rfl (sc 97 rfl (sc 98 rfl (sc 99 rfl (sc 100 rfl (sc 101 rfl (sc 102 rfl (sc 103 rfl (sc 104 rfl (sc 105 rfl (sc 106 rfl (sc 107 rfl (sc 108 rfl (sc 109 rfl (sc 110 rfl (sc 123 rfl (sc 124 rfl (sc 125 rfl (sc 126 rfl (sc 127 rfl (sc 128 rfl (sc 129 rfl (sc 130 rfl (sc 131 rfl (sc 132 rfl (sc 133 rfl (sc 134 rfl (sc 135 rfl (sc 136 rfl (sc 137 rfl (sc 138 rfl (sc 139 rfl (sc 140 rfl (sc 141 rfl (sc 142 rfl (sc 143 rfl (sc 144 rfl (sc 169 rfl (sc 170 rfl (sc 194 rfl (sc 195 rfl (sc 196 rfl (sc 197 rfl (sc 198 rfl (sc 199 rfl (sc 200 rfl (sc 201 rfl (sc 202 rfl (sc 203 rfl (sc 204 rfl (sc 205 rfl sn))))))))))))))))))))))))))))))))))))))))))))))))))))))))))))))))))))))))) (by kernel_rfl) (cc rfl (p_bin g0 (od rfl id) (oc _) (inc_3 (by omega)))
                    (cc rfl (p_move g0 (od rfl id)) cn)) fun a60 w60 b60 s60 => ?_
                have z60 := z59.trans (b60.mono z59.size)
                exact ⟨hlt2, s60.to _ ⟨rfl, rfl, rfl, rfl, rfl, rfl, rfl, rfl, rfl, rfl, True.intro⟩, z60, True.intro⟩
              · -- false
                refine wp_seq ?_
                refine wp_seq ?_
                refine flowC mixed (s58.keep (sc 1 rfl (sc 2 rfl (sc 3 rfl (sc 4 rfl (sc 7 rfl (sc 8 rfl (sc 9 rfl (sc 11 rfl (sc 60 rfl (sc 61 rfl (sc 62 rfl (sc 86 rfl (sc 87 rfl (sc 88 rfl (sc 89 rfl (sc 90 rfl (sc 91 rfl (sc 92 rfl (sc 93 rfl (sc 94 rfl (sc 95 rfl (sc 96 rfl (sc 97 rfl (sc 98 rfl (sc 99 rfl (sc 100 rfl (sc 101 rfl (sc 102 rfl (sc 103 rfl (sc 104 rfl (sc 105 rfl (sc 106 rfl (sc 107 rfl (sc 108 rfl (sc 109 rfl (sc 110 rfl (sc 123 rfl (sc 124 rfl (sc 125 rfl (sc 126 rfl (sc 127 rfl (sc 128 rfl (sc 129 rfl (sc 130 rfl (sc 131 rfl (sc 132 rfl (sc 133 rfl (sc 134 rfl (sc 135 rfl (sc 136 rfl (sc 137 rfl (sc 138 rfl (sc 139 rfl (sc 140 rfl (sc 141 rfl (sc 142 rfl (sc 143 rfl (sc 144 rfl (sc 169 rfl (sc 170 rfl (sc 194 rfl (sc 195 rfl sn))))))))))))))))))))))))))))))))))))))))))))))))))))))))))))))) (by kernel_rfl) (by kernel_rfl) (cc rfl (p_bin g0 (od rfl id) (oc _) b_eql_3)
                    (cc rfl (p_assign g0 (od rfl id)) cn)) fun a61 w61 b61 s61 => ?_
                have z61 := z58.trans (b61.mono z58.size)
                refine s61.cond 206 rfl (fun h206 => ?_) (fun h206 => ?_)
                · -- true
                  refine wp_skip ?_
                  refine s61.cond 206 rfl (fun _ => ?_) (fun h => absurd h (by rw [h206]; simp))
                  refine flowT (s61.keep (sc 1 rfl (sc 2 rfl (sc 3 rfl (sc 4 rfl (sc 7 rfl (sc 8 rfl (sc 9 rfl (sc 11 rfl (sc 60 rfl (sc 61 rfl (sc 62 rfl (sc 86 rfl (sc 87 rfl (sc 88 rfl (sc 89 rfl (sc 90 rfl (sc 91 rfl (sc 92 rfl (sc 93 rfl (sc 94 rfl (sc 95 rfl (sc 96 rfl (sc 97 rfl (sc 98 rfl (sc 99 rfl (sc 100 rfl (sc 101 rfl (sc 102 rfl (sc 103 rfl (sc 104 rfl (sc 105 rfl (sc 106 rfl (sc 107 rfl (sc 108 rfl (sc 109 rfl (sc 110 rfl (sc 123 rfl (sc 124 rfl (sc 125 rfl (sc 126 rfl (sc 127 rfl (sc 128 rfl (sc 129 rfl (sc 130 rfl (sc 131 rfl (sc 132 rfl (sc 133 rfl (sc 134 rfl (sc 135 rfl (sc 136 rfl (sc 137 rfl (sc 138 rfl (sc 139 rfl (sc 140 rfl (sc 141 rfl (sc 142 rfl (sc 143 rfl (sc 144 rfl (sc 169 rfl (sc 170 rfl (sc 194 rfl (sc 195 rfl (sc 206 rfl (sc 207 rfl sn))))))))))))))))))))))))))))))))))))))))))))))))))))))))))))))))) (by kernel_rfl) (cc rfl (p_move g0 (od rfl id))
                      (cc rfl (p_move g0 (od rfl id))
                      (cc rfl (p_fieldAddr pt67_3 fa_67_3 (g1 rfl rfl) (od rfl (fun _ => rfl)))
                      (cc rfl (p_load Try.underlying39 rfl sz_39 (g1 rfl rfl) (od rfl id))
                      (cc rfl (p_call 42 (g1 rfl rfl) (ox (od rfl id) ox0) (fun _ _ => by kernel_rfl) (f42 (by decide)))
                      (cc rfl (p_and g0 (od rfl id) (od rfl id))
                      (cc rfl (p_move g0 (od rfl id))
                      (cc rfl (p_fieldAddr pt67_2 fa_67_2 (g1 rfl rfl) (od rfl (fun _ => rfl)))
                      (cc rfl (p_load Try.underlying39 rfl sz_39 (g1 rfl rfl) (od rfl id))
                      (cc rfl (p_fieldAddr pt67_3 fa_67_3 (g1 rfl rfl) (od rfl (fun _ => rfl)))
                      (cc rfl (p_load Try.underlying39 rfl sz_39 (g1 rfl rfl) (od rfl id))
                      (cc rfl (p_call 83 (g1 rfl rfl) (ox (od rfl id) (ox (od rfl id) ox0)) (fun _ _ => by kernel_rfl) (f83 (by decide)))
                      (cc rfl (p_and g0 (od rfl id) (od rfl id))
                      (cc rfl (p_move g0 (od rfl id))
                      (cc rfl (p_fieldAddr pt67_9 fa_67_9 (g1 rfl rfl) (od rfl (fun _ => rfl)))
                      (cc rfl (p_loadI ld_3 (g1 rfl rfl) (od rfl id))
                      (cc rfl (p_bin (g1 rfl rfl) (od rfl id) (oc _) b_geq_3)
                      (cc rfl (p_and g0 (od rfl id) (od rfl id))
                      (cc rfl (p_move g0 (od rfl id))
                      (cc rfl (p_fieldAddr pt67_9 fa_67_9 (g1 rfl rfl) (od rfl (fun _ => rfl)))
                      (cc rfl (p_loadI ld_3 (g1 rfl rfl) (od rfl id))
                      (cc rfl (p_bin (g1 rfl rfl) (od rfl id) (oc _) b_lss_3)
                      (cc rfl (p_and g0 (od rfl id) (od rfl id))
                      (cc rfl (p_move g0 (od rfl id))
                      (cc rfl (p_fieldAddr pt67_8 fa_67_8 (g1 rfl rfl) (od rfl (fun _ => rfl)))
                      (cc rfl (p_loadI ld_3 (g1 rfl rfl) (od rfl id))
                      (cc rfl (p_bin (g1 rfl rfl) (od rfl id) (oc _) b_geq_3)
                      (cc rfl (p_and g0 (od rfl id) (od rfl id))
                      (cc rfl (p_move g0 (od rfl id))
                      (cc rfl (p_fieldAddr pt67_8 fa_67_8 (g1 rfl rfl) (od rfl (fun _ => rfl)))
                      (cc rfl (p_loadI ld_3 (g1 rfl rfl) (od rfl id))
                      (cc rfl (p_move (g1 rfl rfl) (od rfl (fun _ => rfl)))
                      (cc rfl (p_bin (g1 rfl rfl) (od rfl id) (od rfl id) b_leq_3)
                      (cc rfl (p_and g0 (od rfl id) (od rfl id))
                      (cc rfl (p_assign g0 (od rfl id)) cn))))))))))))))))))))))))))))))))))) fun a62 w62 b62 s62 => ?_
                  have z62 := z61.trans (b62.mono z61.size)
                  have s62 := s62.more 4 (y := .bool (obTo c (i + 1))) (bool_as (s62.get 4 rfl) ((ob_go eo hb).trans (show kindO c o (upO c o) = _ from (by simp only [kindO, h143, h169, h194, h206, if_true, if_false, Bool.false_eq_true]))).symm)
                  refine flowT (s62.keep (sc 1 rfl (sc 2 rfl (sc 3 rfl (sc 4 rfl (sc 7 rfl (sc 8 rfl (sc 9 rfl (sc 11 rfl (sc 60 rfl (sc 61 rfl (sc 62 rfl (sc 86 rfl (sc 87 rfl (sc 88 rfl (sc 89 rfl (sc 90 rfl (sc 91 rfl (sc 92 rfl (sc 93 rfl (sc 94 rfl (sc 95 rfl (sc 96 rfl (sc 97 rfl (sc 98 rfl (sc 99 rfl (sc 100 rfl (sc 101 rfl (sc 102 rfl (sc 103 rfl (sc 104 rfl (sc 105 rfl (sc 106 rfl (sc 107 rfl (sc 108 rfl (sc 109 rfl (sc 110 rfl (sc 123 rfl (sc 124 rfl (sc 125 rfl (sc 126 rfl (sc 127 rfl (sc 128 rfl (sc 129 rfl (sc 130 rfl (sc 131 rfl (sc 132 rfl (sc 133 rfl (sc 134 rfl (sc 135 rfl (sc 136 rfl (sc 137 rfl (sc 138 rfl (sc 139 rfl (sc 140 rfl (sc 141 rfl (sc 142 rfl (sc 143 rfl (sc 144 rfl (sc 169 rfl (sc 170 rfl (sc 194 rfl (sc 195 rfl (sc 206 rfl (sc 207 rfl (sc 209 rfl (sc 210 rfl (sc 211 rfl (sc 212 rfl (sc 213 rfl (sc 214 rfl (sc 215 rfl (sc 216 rfl (sc 217 rfl (sc 218 rfl (sc 219 rfl (sc 220 rfl (sc 221 rfl (sc 222 rfl (sc 223 rfl (sc 224 rfl (sc 225 rfl (sc 226 rfl (sc 227 rfl (sc 228 rfl (sc 229 rfl (sc 230 rfl (sc 231 rfl (sc 232 rfl (sc 233 rfl (sc 234 rfl (sc 235 rfl (sc 236 rfl (sc 237 rfl (sc 238 rfl (sc 239 rfl (sc 240 rfl (sc 241 rfl (sc 242 rfl sn))))))))))))))))))))))))))))))))))))))))))))))))))))))))))))))))))))))))))))))))))))))))))))))))))) (by kernel_rfl) (cc rfl (p_bin g0 (od rfl id) (oc _) (inc_3 (by omega)))
                      (cc rfl (p_move g0 (od rfl id)) cn)) fun a63 w63 b63 s63 => ?_
                  have z63 := z62.trans (b63.mono z62.size)
                  exact ⟨hlt2, s63.to _ ⟨rfl, rfl, rfl, rfl, rfl, rfl, rfl, rfl, rfl, rfl, True.intro⟩, z63, True.intro⟩
                · -- false
                  refine flowT (s61.keep (sc 1 rfl (sc 2 rfl (sc 3 rfl (sc 4 rfl (sc 7 rfl (sc 8 rfl (sc 9 rfl (sc 11 rfl (sc 60 rfl (sc 61 rfl (sc 62 rfl (sc 86 rfl (sc 87 rfl (sc 88 rfl (sc 89 rfl (sc 90 rfl (sc 91 rfl (sc 92 rfl (sc 93 rfl (sc 94 rfl (sc 95 rfl (sc 96 rfl (sc 97 rfl (sc 98 rfl (sc 99 rfl (sc 100 rfl (sc 101 rfl (sc 102 rfl (sc 103 rfl (sc 104 rfl (sc 105 rfl (sc 106 rfl (sc 107 rfl (sc 108 rfl (sc 109 rfl (sc 110 rfl (sc 123 rfl (sc 124 rfl (sc 125 rfl (sc 126 rfl (sc 127 rfl (sc 128 rfl (sc 129 rfl (sc 130 rfl (sc 131 rfl (sc 132 rfl (sc 133 rfl (sc 134 rfl (sc 135 rfl (sc 136 rfl (sc 137 rfl (sc 138 rfl (sc 139 rfl (sc 140 rfl (sc 141 rfl (sc 142 rfl (sc 143 rfl (sc 144 rfl (sc 169 rfl (sc 170 rfl (sc 194 rfl (sc 195 rfl (sc 206 rfl (sc 207 rfl sn))))))))))))))))))))))))))))))))))))))))))))))))))))))))))))))))) (by kernel_rfl) (cc rfl (p_bin g0 (od rfl id) (oc _) b_eql_3)
                      (cc rfl (p_assign g0 (od rfl id)) cn)) fun a64 w64 b64 s64 => ?_
                  have z64 := z61.trans (b64.mono z61.size)
                  refine s64.cond 206 rfl (fun h207 => ?_) (fun h207 => ?_)
                  · -- true
                    refine flowT (s64.keep (sc 1 rfl (sc 2 rfl (sc 3 rfl (sc 4 rfl (sc 7 rfl (sc 8 rfl (sc 9 rfl (sc 11 rfl (sc 60 rfl (sc 61 rfl (sc 62 rfl (sc 86 rfl (sc 87 rfl (sc 88 rfl (sc 89 rfl (sc 90 rfl (sc 91 rfl (sc 92 rfl (sc 93 rfl (sc 94 rfl (sc 95 rfl (sc 96 rfl (sc 97 rfl (sc 98 rfl (sc 99 rfl (sc 100 rfl (sc 101 rfl (sc 102 rfl (sc 103 rfl (sc 104 rfl (sc 105 rfl (sc 106 rfl (sc 107 rfl (sc 108 rfl (sc 109 rfl (sc 110 rfl (sc 123 rfl (sc 124 rfl (sc 125 rfl (sc 126 rfl (sc 127 rfl (sc 128 rfl (sc 129 rfl (sc 130 rfl (sc 131 rfl (sc 132 rfl (sc 133 rfl (sc 134 rfl (sc 135 rfl (sc 136 rfl (sc 137 rfl (sc 138 rfl (sc 139 rfl (sc 140 rfl (sc 141 rfl (sc 142 rfl (sc 143 rfl (sc 144 rfl (sc 169 rfl (sc 170 rfl (sc 194 rfl (sc 195 rfl (sc 206 rfl (sc 207 rfl (sc 208 rfl sn)))))))))))))))))))))))))))))))))))))))))))))))))))))))))))))))))) (by kernel_rfl) (cc rfl (p_move g0 (od rfl id))
                        (cc rfl (p_move g0 (od rfl id))
                        (cc rfl (p_fieldAddr pt67_3 fa_67_3 (g1 rfl rfl) (od rfl (fun _ => rfl)))
                        (cc rfl (p_load Try.underlying39 rfl sz_39 (g1 rfl rfl) (od rfl id))
                        (cc rfl (p_call 42 (g1 rfl rfl) (ox (od rfl id) ox0) (fun _ _ => by kernel_rfl) (f42 (by decide)))
                        (cc rfl (p_and g0 (od rfl id) (od rfl id))
                        (cc rfl (p_move g0 (od rfl id))
                        (cc rfl (p_fieldAddr pt67_2 fa_67_2 (g1 rfl rfl) (od rfl (fun _ => rfl)))
                        (cc rfl (p_load Try.underlying39 rfl sz_39 (g1 rfl rfl) (od rfl id))
                        (cc rfl (p_fieldAddr pt67_3 fa_67_3 (g1 rfl rfl) (od rfl (fun _ => rfl)))
                        (cc rfl (p_load Try.underlying39 rfl sz_39 (g1 rfl rfl) (od rfl id))
                        (cc rfl (p_call 83 (g1 rfl rfl) (ox (od rfl id) (ox (od rfl id) ox0)) (fun _ _ => by kernel_rfl) (f83 (by decide)))
                        (cc rfl (p_and g0 (od rfl id) (od rfl id))
                        (cc rfl (p_move g0 (od rfl id))
                        (cc rfl (p_fieldAddr pt67_9 fa_67_9 (g1 rfl rfl) (od rfl (fun _ => rfl)))
                        (cc rfl (p_loadI ld_3 (g1 rfl rfl) (od rfl id))
                        (cc rfl (p_bin (g1 rfl rfl) (od rfl id) (oc _) b_geq_3)
                        (cc rfl (p_and g0 (od rfl id) (od rfl id))
                        (cc rfl (p_move g0 (od rfl id))
                        (cc rfl (p_fieldAddr pt67_9 fa_67_9 (g1 rfl rfl) (od rfl (fun _ => rfl)))
                        (cc rfl (p_loadI ld_3 (g1 rfl rfl) (od rfl id))
                        (cc rfl (p_bin (g1 rfl rfl) (od rfl id) (oc _) b_lss_3)
                        (cc rfl (p_and g0 (od rfl id) (od rfl id))
                        (cc rfl (p_move g0 (od rfl id))
                        (cc rfl (p_fieldAddr pt67_8 fa_67_8 (g1 rfl rfl) (od rfl (fun _ => rfl)))
                        (cc rfl (p_loadI ld_3 (g1 rfl rfl) (od rfl id))
                        (cc rfl (p_bin (g1 rfl rfl) (od rfl id) (oc _) b_geq_3)
                        (cc rfl (p_and g0 (od rfl id) (od rfl id))
                        (cc rfl (p_move g0 (od rfl id))
                        (cc rfl (p_fieldAddr pt67_8 fa_67_8 (g1 rfl rfl) (od rfl (fun _ => rfl)))
                        (cc rfl (p_loadI ld_3 (g1 rfl rfl) (od rfl id))
                        (cc rfl (p_move (g1 rfl rfl) (od rfl (fun _ => rfl)))
                        (cc rfl (p_bin (g1 rfl rfl) (od rfl id) (od rfl id) b_leq_3)
                        (cc rfl (p_and g0 (od rfl id) (od rfl id))
                        (cc rfl (p_assign g0 (od rfl id)) cn))))))))))))))))))))))))))))))))))) fun a65 w65 b65 s65 => ?_
                    have z65 := z64.trans (b65.mono z64.size)
                    have s65 := s65.more 4 (y := .bool (obTo c (i + 1))) (bool_as (s65.get 4 rfl) ((ob_go eo hb).trans (show kindO c o (upO c o) = _ from (by simp only [kindO, h143, h169, h194, h206, h207, if_true, if_false, Bool.false_eq_true]))).symm)
                    refine flowT (s65.keep (sc 1 rfl (sc 2 rfl (sc 3 rfl (sc 4 rfl (sc 7 rfl (sc 8 rfl (sc 9 rfl (sc 11 rfl (sc 60 rfl (sc 61 rfl (sc 62 rfl (sc 86 rfl (sc 87 rfl (sc 88 rfl (sc 89 rfl (sc 90 rfl (sc 91 rfl (sc 92 rfl (sc 93 rfl (sc 94 rfl (sc 95 rfl (sc 96 rfl (sc 97 rfl (sc 98 rfl (sc 99 rfl (sc 100 rfl (sc 101 rfl (sc 102 rfl (sc 103 rfl (sc 104 rfl (sc 105 rfl (sc 106 rfl (sc 107 rfl (sc 108 rfl (sc 109 rfl (sc 110 rfl (sc 123 rfl (sc 124 rfl (sc 125 rfl (sc 126 rfl (sc 127 rfl (sc 128 rfl (sc 129 rfl (sc 130 rfl (sc 131 rfl (sc 132 rfl (sc 133 rfl (sc 134 rfl (sc 135 rfl (sc 136 rfl (sc 137 rfl (sc 138 rfl (sc 139 rfl (sc 140 rfl (sc 141 rfl (sc 142 rfl (sc 143 rfl (sc 144 rfl (sc 169 rfl (sc 170 rfl (sc 194 rfl (sc 195 rfl (sc 206 rfl (sc 207 rfl (sc 208 rfl (sc 209 rfl (sc 210 rfl (sc 211 rfl (sc 212 rfl (sc 213 rfl (sc 214 rfl (sc 215 rfl (sc 216 rfl (sc 217 rfl (sc 218 rfl (sc 219 rfl (sc 220 rfl (sc 221 rfl (sc 222 rfl (sc 223 rfl (sc 224 rfl (sc 225 rfl (sc 226 rfl (sc 227 rfl (sc 228 rfl (sc 229 rfl (sc 230 rfl (sc 231 rfl (sc 232 rfl (sc 233 rfl (sc 234 rfl (sc 235 rfl (sc 236 rfl (sc 237 rfl (sc 238 rfl (sc 239 rfl (sc 240 rfl (sc 241 rfl (sc 242 rfl sn)))))))))))))))))))))))))))))))))))))))))))))))))))))))))))))))))))))))))))))))))))))))))))))))))))) (by kernel_rfl) (cc rfl (p_bin g0 (od rfl id) (oc _) (inc_3 (by omega)))
                        (cc rfl (p_move g0 (od rfl id)) cn)) fun a66 w66 b66 s66 => ?_
                    have z66 := z65.trans (b66.mono z65.size)
                    exact ⟨hlt2, s66.to _ ⟨rfl, rfl, rfl, rfl, rfl, rfl, rfl, rfl, rfl, rfl, True.intro⟩, z66, True.intro⟩
                  · -- false
                    refine wp_seq ?_
                    refine flowC mixed (s64.keep (sc 1 rfl (sc 2 rfl (sc 3 rfl (sc 4 rfl (sc 7 rfl (sc 8 rfl (sc 9 rfl (sc 11 rfl (sc 60 rfl (sc 61 rfl (sc 62 rfl (sc 86 rfl (sc 87 rfl (sc 88 rfl (sc 89 rfl (sc 90 rfl (sc 91 rfl (sc 92 rfl (sc 93 rfl (sc 94 rfl (sc 95 rfl (sc 96 rfl (sc 97 rfl (sc 98 rfl (sc 99 rfl (sc 100 rfl (sc 101 rfl (sc 102 rfl (sc 103 rfl (sc 104 rfl (sc 105 rfl (sc 106 rfl (sc 107 rfl (sc 108 rfl (sc 109 rfl (sc 110 rfl (sc 123 rfl (sc 124 rfl (sc 125 rfl (sc 126 rfl (sc 127 rfl (sc 128 rfl (sc 129 rfl (sc 130 rfl (sc 131 rfl (sc 132 rfl (sc 133 rfl (sc 134 rfl (sc 135 rfl (sc 136 rfl (sc 137 rfl (sc 138 rfl (sc 139 rfl (sc 140 rfl (sc 141 rfl (sc 142 rfl (sc 143 rfl (sc 144 rfl (sc 169 rfl (sc 170 rfl (sc 194 rfl (sc 195 rfl (sc 206 rfl (sc 207 rfl (sc 208 rfl sn)))))))))))))))))))))))))))))))))))))))))))))))))))))))))))))))))) (by kernel_rfl) (by kernel_rfl) (cc rfl (p_bin g0 (od rfl id) (oc _) b_eql_3)
                        (cc rfl (p_assign g0 (od rfl id)) cn)) fun a67 w67 b67 s67 => ?_
                    have z67 := z64.trans (b67.mono z64.size)
                    refine s67.cond 243 rfl (fun h243 => ?_) (fun h243 => ?_)
                    · -- true
                      refine flowT (s67.keep (sc 1 rfl (sc 2 rfl (sc 3 rfl (sc 4 rfl (sc 7 rfl (sc 8 rfl (sc 9 rfl (sc 11 rfl (sc 60 rfl (sc 61 rfl (sc 62 rfl (sc 86 rfl (sc 87 rfl (sc 88 rfl (sc 89 rfl (sc 90 rfl (sc 91 rfl (sc 92 rfl (sc 93 rfl (sc 94 rfl (sc 95 rfl (sc 96 rfl (sc 97 rfl (sc 98 rfl (sc 99 rfl (sc 100 rfl (sc 101 rfl (sc 102 rfl (sc 103 rfl (sc 104 rfl (sc 105 rfl (sc 106 rfl (sc 107 rfl (sc 108 rfl (sc 109 rfl (sc 110 rfl (sc 123 rfl (sc 124 rfl (sc 125 rfl (sc 126 rfl (sc 127 rfl (sc 128 rfl (sc 129 rfl (sc 130 rfl (sc 131 rfl (sc 132 rfl (sc 133 rfl (sc 134 rfl (sc 135 rfl (sc 136 rfl (sc 137 rfl (sc 138 rfl (sc 139 rfl (sc 140 rfl (sc 141 rfl (sc 142 rfl (sc 143 rfl (sc 144 rfl (sc 169 rfl (sc 170 rfl (sc 194 rfl (sc 195 rfl (sc 206 rfl (sc 207 rfl (sc 208 rfl (sc 243 rfl (sc 244 rfl sn)))))))))))))))))))))))))))))))))))))))))))))))))))))))))))))))))))) (by kernel_rfl) (cc rfl (p_move g0 (od rfl id))
                          (cc rfl (p_move g0 (od rfl id))
                          (cc rfl (p_move (g1 rfl rfl) (od rfl (fun _ => rfl)))
                          (cc rfl (p_and g0 (od rfl id) (od rfl id))
                          (cc rfl (p_assign g0 (od rfl id)) cn))))) fun a68 w68 b68 s68 => ?_
                      have z68 := z67.trans (b68.mono z67.size)
                      have s68 := s68.more 4 (y := .bool (obTo c (i + 1))) (bool_as (s68.get 4 rfl) ((ob_go eo hb).trans (show kindO c o (upO c o) = _ from (by simp only [kindO, h143, h169, h194, h206, h207, h243, if_true, if_false, Bool.false_eq_true]))).symm)
                      refine flowT (s68.keep (sc 1 rfl (sc 2 rfl (sc 3 rfl (sc 4 rfl (sc 7 rfl (sc 8 rfl (sc 9 rfl (sc 11 rfl (sc 60 rfl (sc 61 rfl (sc 62 rfl (sc 86 rfl (sc 87 rfl (sc 88 rfl (sc 89 rfl (sc 90 rfl (sc 91 rfl (sc 92 rfl (sc 93 rfl (sc 94 rfl (sc 95 rfl (sc 96 rfl (sc 97 rfl (sc 98 rfl (sc 99 rfl (sc 100 rfl (sc 101 rfl (sc 102 rfl (sc 103 rfl (sc 104 rfl (sc 105 rfl (sc 106 rfl (sc 107 rfl (sc 108 rfl (sc 109 rfl (sc 110 rfl (sc 123 rfl (sc 124 rfl (sc 125 rfl (sc 126 rfl (sc 127 rfl (sc 128 rfl (sc 129 rfl (sc 130 rfl (sc 131 rfl (sc 132 rfl (sc 133 rfl (sc 134 rfl (sc 135 rfl (sc 136 rfl (sc 137 rfl (sc 138 rfl (sc 139 rfl (sc 140 rfl (sc 141 rfl (sc 142 rfl (sc 143 rfl (sc 144 rfl (sc 169 rfl (sc 170 rfl (sc 194 rfl (sc 195 rfl (sc 206 rfl (sc 207 rfl (sc 208 rfl (sc 243 rfl (sc 244 rfl (sc 245 rfl (sc 246 rfl (sc 247 rfl (sc 248 rfl sn)))))))))))))))))))))))))))))))))))))))))))))))))))))))))))))))))))))))) (by kernel_rfl) (cc rfl (p_bin g0 (od rfl id) (oc _) (inc_3 (by omega)))
                          (cc rfl (p_move g0 (od rfl id)) cn)) fun a69 w69 b69 s69 => ?_
                      have z69 := z68.trans (b69.mono z68.size)
                      exact ⟨hlt2, s69.to _ ⟨rfl, rfl, rfl, rfl, rfl, rfl, rfl, rfl, rfl, rfl, True.intro⟩, z69, True.intro⟩
                    · -- false
                      refine wp_seq ?_
                      refine flowT (s67.keep (sc 1 rfl (sc 2 rfl (sc 3 rfl (sc 4 rfl (sc 7 rfl (sc 8 rfl (sc 9 rfl (sc 11 rfl (sc 60 rfl (sc 61 rfl (sc 62 rfl (sc 86 rfl (sc 87 rfl (sc 88 rfl (sc 89 rfl (sc 90 rfl (sc 91 rfl (sc 92 rfl (sc 93 rfl (sc 94 rfl (sc 95 rfl (sc 96 rfl (sc 97 rfl (sc 98 rfl (sc 99 rfl (sc 100 rfl (sc 101 rfl (sc 102 rfl (sc 103 rfl (sc 104 rfl (sc 105 rfl (sc 106 rfl (sc 107 rfl (sc 108 rfl (sc 109 rfl (sc 110 rfl (sc 123 rfl (sc 124 rfl (sc 125 rfl (sc 126 rfl (sc 127 rfl (sc 128 rfl (sc 129 rfl (sc 130 rfl (sc 131 rfl (sc 132 rfl (sc 133 rfl (sc 134 rfl (sc 135 rfl (sc 136 rfl (sc 137 rfl (sc 138 rfl (sc 139 rfl (sc 140 rfl (sc 141 rfl (sc 142 rfl (sc 143 rfl (sc 144 rfl (sc 169 rfl (sc 170 rfl (sc 194 rfl (sc 195 rfl (sc 206 rfl (sc 207 rfl (sc 208 rfl (sc 243 rfl (sc 244 rfl sn)))))))))))))))))))))))))))))))))))))))))))))))))))))))))))))))))))) (by kernel_rfl) (cc rfl (p_assign g0 (oc _)) cn) fun a70 w70 b70 s70 => ?_
                      have z70 := z67.trans (b70.mono z67.size)
                      have s70 := s70.more 2 (y := .bool (rightD c)) (bool_as (s70.get 2 rfl) (ob_false ((ob_go eo hb).trans (show kindO c o (upO c o) = _ from (by simp only [kindO, h143, h169, h194, h206, h207, h243, if_false, Bool.false_eq_true]))) hlt2).symm)
                      exact wp_ret (ret_tmp (fn := Try.f47) s70 2 rfl rfl (fun _ h => h) z70)
    · -- false
      obtain rfl : i = c.obs.length := by have := of_decide_eq_false h; (try dsimp only at this); omega
      refine wp_exit ?_
      refine wp_seq ?_
      refine flowT (s12.keep (sc 1 rfl (sc 2 rfl (sc 3 rfl (sc 4 rfl (sc 60 rfl (sc 61 rfl (sc 62 rfl (sc 86 rfl (sc 87 rfl (sc 88 rfl sn))))))))))) (by kernel_rfl) (cc rfl (p_move g0 (od rfl id))
          (cc rfl (p_assign g0 (od rfl id)) cn)) fun a71 w71 b71 s71 => ?_
      have z71 := z12.trans (b71.mono z12.size)
      have s71 := s71.more 2 (y := .bool (rightD c)) (bool_as (s71.get 2 rfl) rfl)
      exact wp_ret (ret_tmp (fn := Try.f47) s71 2 rfl rfl (fun _ h => h) z71)
end Go.Proofs.Ytihddficgpjgpaa.Y
