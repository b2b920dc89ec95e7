/- MSa: Ysd, Yse, Ysf, one behind the other. -/
import Derived.Sort.AssemblyPlain
import Derived.Test.YtbeeiecbbmiojaaMTc
import Derived.Test.YtbeeiecbbmiojaaYswap

/- Ysd: slices.Sort at uint64: the ground -/
namespace Go.Proofs.Ytbeeiecbbmiojaa.Y
open Go.RowKit Go.ChangeShapes Go.WideShapes Go.ChangeAt Go.ChangeMaps Go.MapKept

open Go.Sort (ltInt swp)
abbrev slD (g n cap : Nat) : Value := .slice (some ⟨g, 0, none⟩) n cap
/-- The numbers of a slice that begins its block. -/
def RowD (w : World) (g cap n : Nat) (d : Array Int) : Prop := ∃ cs : Array Value, Blk w g 28 cs ∧ cs.size = cap ∧ d.size = n ∧ n ≤ cap ∧ ∀ i, i < n → cs[i]? = some (.int .u64 d[i]!)
theorem RowD.lt {w : World} {g cap n : Nat} {d : Array Int} (h : RowD w g cap n d) : g < w.heap.size := by
  obtain ⟨cs, hb, _⟩ := h
  exact hb.lt
theorem RowD.size {w : World} {g cap n : Nat} {d : Array Int} (h : RowD w g cap n d) : d.size = n := by
  obtain ⟨cs, _, _, h, _⟩ := h
  exact h
theorem RowD.below {w w' : World} {g cap n : Nat} {d : Array Int} (h : RowD w g cap n d) (hb : Below w.heap.size w w') : RowD w' g cap n d := by
  obtain ⟨cs, h1, h2⟩ := h
  exact ⟨cs, h1.below hb h1.lt, h2⟩
theorem RowD.grown {w w' : World} {g cap n : Nat} {d : Array Int} {r : Option Nat} (h : RowD w g cap n d) (hg : w.grownBy w' r) (hn : some g ≠ r) : RowD w' g cap n d := by
  obtain ⟨cs, h1, h2⟩ := h
  exact ⟨cs, h1.grown hg hn, h2⟩
/-- The slice, and what it holds. -/
def Sym.rowD (g n cap : Nat) (d : Array Int) : Sym := ⟨fun w F v => v = slD g n cap ∧ RowD w g cap n d ∧ ∀ i, ¬ F (g, i), by
  rintro w w' F F' v ⟨e, ⟨cs, h1, h2⟩, h3⟩ hk hF
  exact ⟨e, ⟨cs, (hk.whole g h1.lt h3).trans h1, h2⟩, fun i hf => h3 i (hF (g, i) h1.lt hf)⟩⟩
/-- The place of a number. -/
def Sym.celD (g i : Nat) (x : Int) : Sym := ⟨fun w F v => v = .pointer (some ⟨g, 0 + i * 1, none⟩) ∧ w.cell? ⟨g, 0 + i * 1, none⟩ = some (.int .u64 x) ∧ g < w.heap.size ∧ ¬ F (g, 0 + i * 1), by
  rintro w w' F F' v ⟨e, h1, h2, h3⟩ hk hF
  exact ⟨e, (hk.cell h2 h3).trans h1, Nat.lt_of_lt_of_le h2 hk.size, fun hf => h3 (hF _ h2 hf)⟩⟩
section
variable {U : Prop} {ops : Array Oper} {Q : Exit → Act → World → Prop} {N d : Nat} {e : Env} {t : TypeId} {p : String} {af : Array Edge} {gd : Option (Nat × Bool)} {c : Bool} {x x2 : Operand} {g n cap i : Nat} {D : Array Int}
theorem p_binC {u u' : TypeId} {o : BinOp} {v1 v2 : Value} {k : IntKind} {m m' : Int} (hn : c = true → m = m') (hg : GdE ops e gd c) (hx : OpdE e c x (.val v1)) (hx2 : OpdE e c x2 (.val v2)) (hr : Run2 Try.prog ⟨some d, .binOp o u x x2 u', t, p, af, gd⟩ x x2 v1 v2 (.int k m)) : Pays U Try.prog ops Q N e ⟨some d, .binOp o u x x2 u', t, p, af, gd⟩ (c, .int k m') :=
  pVal hg fun e a w F hk => ⟨_, hr _ w (hx a w F (fun s hs => hk s (by simp [Op.operands, hs])) e) (hx2 a w F (fun s hs => hk s (by simp [Op.operands, hs])) e), by rw [hn e]; rfl⟩
theorem p_idxD (hi : c = true → i < n) (hg : GdE ops e gd c) (hx : OpdE e c x (.rowD g n cap D)) (hx2 : OpdE e c x2 (.int .i64 i)) : Pays U Try.prog ops Q N e ⟨some d, .indexAddr 29 x x2, t, p, af, gd⟩ (c, .celD g i D[i]!) :=
  pVal hg fun e a w F hk => by
    obtain ⟨h1, ⟨cs, h2, h3, h4, h5, h6⟩, h7⟩ := hx a w F (fun s hs => hk s (by simp [Op.operands, hs])) e
    have hin := hi e
    exact ⟨_, ix_29 _ w g 0 n cap i h1 (hx2 a w F (fun s hs => hk s (by simp [Op.operands, hs])) e) hin, rfl, by rw [h2.cell, show 0 + i * 1 = i by omega]; exact h6 i hin, h2.lt, h7 _⟩
theorem p_idxVD (hi : i < n) (hg : GdE ops e gd c) (hx : OpdE e c x (.val (slD g n cap))) (hx2 : OpdE e c x2 (.int .i64 i)) : Pays U Try.prog ops Q N e ⟨some d, .indexAddr 29 x x2, t, p, af, gd⟩ (c, .val (.pointer (some ⟨g, 0 + i * 1, none⟩))) :=
  pVal hg fun e a w F hk => ⟨_, ix_29 _ w g 0 n cap i (hx a w F (fun s hs => hk s (by simp [Op.operands, hs])) e) (hx2 a w F (fun s hs => hk s (by simp [Op.operands, hs])) e) hi, rfl⟩
theorem p_ldD {z : Int} (hg : GdE ops e gd c) (hx : OpdE e c x (.celD g i z)) : Pays U Try.prog ops Q N e ⟨some d, .load 28 x, t, p, af, gd⟩ (c, .int .u64 z) :=
  pVal hg fun e a w F hk => by
    have h := hx a w F (fun s hs => hk s (by simp [Op.operands, hs])) e
    exact ⟨_, ld_28 _ w g (0 + i * 1) _ h.1 h.2.1, rfl⟩
end
theorem over_one {cs : Array Value} {o : Nat} {v : Value} (h : o < cs.size) : over cs o [v] = cs.setIfInBounds o v := by
  rw [← over_cons cs o v [] (by simp; omega), over_nil]
theorem RowD.set {w : World} {g cap n i : Nat} {d : Array Int} {x : Int} (h : RowD w g cap n d) (hi : i < n) : RowD (w.setCells g (0 + i * 1) [.int .u64 x]) g cap n (d.setIfInBounds i x) := by
  obtain ⟨cs, hB, hs, hd, hn, hc⟩ := h
  have hB2 := hB.setCells [Value.int .u64 x] (0 + i * 1) (by simp; omega)
  refine ⟨_, hB2, ?_, by simpa using hd, hn, fun j hj => ?_⟩
  · rw [over_size _ _ _ (by simp; omega)]; exact hs
  · rw [over_one (by omega), show 0 + i * 1 = i by omega, Array.getElem?_setIfInBounds]
    by_cases e : i = j
    · subst e
      rw [if_pos rfl, if_pos (by omega)]
      simp [hd, hi]
    · rw [if_neg e, hc j hj]
      simp [Array.getElem!_eq_getD, Array.getD_eq_getD_getElem?, e]
theorem RowD.cell {w : World} {g cap n i : Nat} {d : Array Int} (h : RowD w g cap n d) (hi : i < n) : w.cell? ⟨g, 0 + i * 1, none⟩ = some (.int .u64 d[i]!) := by
  obtain ⟨cs, hB, hs, hd, hn, hc⟩ := h
  rw [hB.cell, show 0 + i * 1 = i by omega]; exact hc i hi
theorem RowD.ok {w : World} {g cap n i : Nat} {d : Array Int} {x : Value} (h : RowD w g cap n d) (hi : i < n) (j : Nat) (hj : j < [x].length) : (w.cell? ⟨g, 0 + i * 1 + j, none⟩).isSome = true := by
  have : j = 0 := by
    rw [List.length_singleton] at hj
    omega
  rw [this, Nat.add_zero, h.cell hi]
  rfl
theorem RowD.froz {w : World} {g cap n : Nat} {d : Array Int} (h : RowD w g cap n d) (o : Nat) : w.frozen? ⟨g, o, none⟩ = false := by
  obtain ⟨cs, hB, _⟩ := h
  exact hB.frozen _
theorem storeD_on {Q : Exit → Act → World → Prop} {N : Nat} {e e2 : Env} {a : Act} {w : World} {ops : Array Oper} {rest : List Oper} {o : Oper} {g cap n i : Nat} {d : Array Int} {x : Int} {xo yo : Operand} (h : StE False N e noF a w) (h1 : o.op = .store 28 xo yo) (h2 : o.dst = none) (h3 : o.guard = none)
    (hx : a.eval xo = .pointer (some ⟨g, 0 + i * 1, none⟩)) (hy : a.eval yo = .int .u64 x) (hR : RowD w g cap n d) (hi : i < n) (hv : ValsB e e2)
    (hQ : ∀ a' w', RowD w' g cap n (d.setIfInBounds i x) → w.grownBy w' (some g) → StE False N e2 noF a' w' → wpList Try.prog ops Q rest a' w') : wpList Try.prog ops Q (o :: rest) a w := by
  refine wpList_plain h3 fun K hK => ?_
  refine wp_store_cells 28 xo yo h1 g (0 + i * 1) [.int .u64 x] hx (by rw [hy]; rfl) (hR.ok hi) (fun j hj => hR.froz _) sz_28 (fun u hu => by rw [List.mem_singleton.1 hu]; rfl) (hK _ _ ?_)
  rw [h2]
  exact hQ _ _ (hR.set hi) (only_setCells _ _ (only_refl w (some g))) (h.vals (fok_no _ _) hv)
section
variable {Q : Exit → Act → World → Prop} {ops : Array Oper} {N d : Nat} {e : Env} {t : TypeId} {p : String} {af : Array Edge} {gd : Option (Nat × Bool)} {c : Bool} {x : Operand} {g n cap i : Nat} {D : Array Int}
/-- A load ahead of the store. -/
theorem p_ldL (hi : i < n) (hg : GdE ops e gd c) (hx : OpdE e c x (.val (.pointer (some ⟨g, 0 + i * 1, none⟩)))) : PaysL False Try.prog ops Q N (fun w => RowD w g cap n D) e ⟨some d, .load 28 x, t, p, af, gd⟩ (c, .int .u64 D[i]!) :=
  fun a w F hsz _ hB hk R hR => by
    have hk2 : ∀ s ∈ (Op.load 28 x).operands.toList.flatMap slotsOf, SlotOK e F a w s := fun s hs => hk s (List.mem_append_right _ hs)
    have hgs : ∀ s ∈ guardSlots ops ⟨some d, .load 28 x, t, p, af, gd⟩, SlotOK e F a w s := fun s hs => hk s (List.mem_append_left _ hs)
    rw [hg a w F ⟨some d, .load 28 x, t, p, af, gd⟩ rfl hgs]
    cases c with
    | true =>
      rw [if_pos rfl]
      unfold Oper.wp
      rw [ld_28 _ w g (0 + i * 1) _ (hx a w F (fun s hs => hk2 s (by simp [Op.operands, hs])) rfl) ((hB rfl).cell hi)]
      exact hR _ w (Below.refl _ _) ⟨fun _ => rfl, fun e => by cases e⟩
    | false =>
      rw [if_neg (by simp)]
      exact hR undef w (Below.refl _ _) ⟨(fun e => by cases e), fun _ => rfl⟩
/-- A drawn region with a swap: up to its first store. -/
theorem flowD {id : Nat} {l : List Oper} {e0 e1 e2 : Env} {a : Act} {w : World} {z : Int} (m sx sy : Nat) (hv0 : ValsB e0 e) (hi : i < n) (h : StE False N e0 noF a w) (hR : RowD w g cap n D)
    (hm : ∃ t p af, l[m]? = some ⟨none, .store 28 (.tmp sx) (.tmp sy), t, p, af, none⟩)
    (hB : flowB l.toArray (e.map (·.1)) (m + 1) N [m] = true) (hbm : bindL l.toArray (m + 1) m = true)
    (hC : ChainL False Try.prog l.toArray Q N (fun w => RowD w g cap n D) e (l.take m) e1) (hF1 : freshB (e.map (·.1)) (dstsOf (l.take m)) = true)
    (hx : e1.lookup sx = some (true, .val (.pointer (some ⟨g, 0 + i * 1, none⟩)))) (hy : e1.lookup sy = some (true, .int .u64 z)) (hv : ValsB e1 e2)
    (hQ : ∀ a' w', RowD w' g cap n (D.setIfInBounds i z) → w.grownBy w' (some g) → StE False N e2 noF a' w' → wpList Try.prog l.toArray Q (l.drop (m + 1)) a' w') : (Code.region id l.toArray true).wp Try.prog Q a w := by
  obtain ⟨t, p, af, hm⟩ := hm
  refine flowL (m + 1) m g (fun w => RowD w g cap n D) (fun w => RowD w g cap n (D.setIfInBounds i z)) mixed (h.vals (fok_atO hR.lt) hv0) (fun _ => rfl) hR (fun h b => h.below b) (fun h b => h.below b) hB rfl (by rw [List.getElem?_toArray, hm]; rfl) hbm hC hF1 ?_ ?_
  · intro a w o ho hsz hf hk hBw R hR'
    rw [hm] at ho; cases ho
    rw [if_pos (by simp [Region.wanted])]
    have k1 := (hk sx (by simp [usesOf, Op.operands, slotsOf]) _ hx).1 rfl
    have k2 := (hk sy (by simp [usesOf, Op.operands, slotsOf]) _ hy).1 rfl
    refine wp_store_cells 28 _ _ rfl g (0 + i * 1) [.int .u64 z] k1 (by rw [show a.eval (.tmp sy) = .int .u64 z from k2]; rfl) (hBw.ok hi) (fun j hj => hBw.froz _) sz_28 (fun u hu => by rw [List.mem_singleton.1 hu]; rfl) ?_
    exact hR' undef _ (only_setCells _ _ (only_refl w (some g))) (fun u => u.elim) (hBw.set hi)
  · intro a' w' hg hG hS
    exact hQ a' w' hG hg (hS.vals (fok_no _ _) hv)
end
theorem end_n {N : Nat} {e : Env} {F : Cell → Prop} {a : Act} {w : World} {U : Prop} {fn : Func} {R : World → Prop} (h : StE U N e F a w) (hr : fn.results = #[]) (hR : R w) : bodyPost Try.prog fn (fun e w' => e = .returned (.tuple #[]) ∧ R w') .normal a w := by
  refine ⟨h.defers, .tuple #[], ?_, rfl, hR⟩
  simp [results, hr]
theorem ret_n {N : Nat} {e : Env} {F : Cell → Prop} {a : Act} {w : World} {U : Prop} {fn : Func} {R : World → Prop} (h : StE U N e F a w) (hr : fn.results = #[]) (hR : R w) : bodyPost Try.prog fn (fun e w' => e = .returned (.tuple #[]) ∧ R w') .ret a w := end_n h hr hR
theorem at_rowD {w : World} {g n cap : Nat} {d : Array Int} (h : RowD w g cap n d) {v : Value} (hv : v = slD g n cap) : (Sym.rowD g n cap d).on w noF v := ⟨hv, h, fun _ h => h⟩
section
variable {d : Nat} {t : TypeId} {p : String} {af : Array Edge} {g : Option (Nat × Bool)} {x x2 : Operand}
theorem b_neq_28' {a : Int} : Run2 Try.prog ⟨some d, .binOp .neq 28 x x2 28, t, p, af, g⟩ x x2 (.int .u64 a) (.int .u64 a) (.bool false) := fun ev w h1 h2 => by rw [b_neq_28 ev w h1 h2]; simp
end
set_option maxRecDepth 100000 in
theorem f73 {U : Prop} {x : Int} : Fn U Try.prog 73 [.int .u64 x] (.bool false) := fn1 fun w F v0 h0 hF => by
  go_enter Try.func73, Try.ntmps73
  refine wp_seq ?_
  refine flowC mixed (st0 (U := U) (N := 6) (e := [(0, true, .int .u64 x)]) (F := F) rfl rfl hF ⟨⟨rfl, h0⟩, True.intro⟩) (by kernel_rfl) (by kernel_rfl) (cc rfl (p_assign g0 (oc _)) cn) fun a1 w1 b1 s1 => ?_
  have z1 := b1
  refine wp_seq ?_
  refine flowT (s1.keep (sc 0 rfl (sc 2 rfl sn))) (by kernel_rfl) (cc rfl (p_move g0 (od rfl id))
      (cc rfl (p_move g0 (od rfl id))
      (cc rfl (p_bin g0 (od rfl id) (od rfl id) b_neq_28')
      (cc rfl (p_assign g0 (od rfl id)) cn)))) fun a2 w2 b2 s2 => ?_
  have z2 := z1.trans (b2.mono z1.size)
  exact wp_ret (ret_tmp (fn := Try.f73) s2 2 rfl rfl (fun _ h => h) z2)
set_option maxRecDepth 100000 in
theorem f60 {U : Prop} {x y : Int} : Fn U Try.prog 60 [.int .u64 x, .int .u64 y] (.bool (ltInt x y)) := fn2 fun w F v0 v1 h0 h1 hF => by
  go_enter Try.func60, Try.ntmps60
  refine wp_seq ?_
  refine flowC mixed (st0 (U := U) (N := 17) (e := [(0, true, .int .u64 x), (1, true, .int .u64 y)]) (F := F) rfl rfl hF ⟨⟨rfl, h0⟩, ⟨⟨rfl, h1⟩, True.intro⟩⟩) (by kernel_rfl) (by kernel_rfl) (cc rfl (p_assign g0 (oc _)) cn) fun a1 w1 b1 s1 => ?_
  have z1 := b1
  refine wp_seq ?_
  refine flowT (s1.keep (sc 0 rfl (sc 1 rfl (sc 4 rfl sn)))) (by kernel_rfl) (cc rfl (p_move g0 (od rfl id))
      (cc rfl (p_call 73 g0 (ox (od rfl id) ox0) (fun _ _ => by kernel_rfl) f73)
      (cc rfl (p_move g0 (od rfl id))
      (cc rfl (p_move (g1 rfl rfl) (od rfl (fun _ => rfl)))
      (cc rfl (p_call 73 (g1 rfl rfl) (ox (od rfl id) ox0) (fun _ _ => by kernel_rfl) f73)
      (cc rfl (p_not (g1 rfl rfl) (od rfl id))
      (cc rfl (p_and g0 (od rfl id) (od rfl id))
      (cc rfl (p_move g0 (od rfl id))
      (cc rfl (p_move (g1 rfl rfl) (od rfl (fun _ => rfl)))
      (cc rfl (p_move (g1 rfl rfl) (od rfl (fun _ => rfl)))
      (cc rfl (p_bin (g1 rfl rfl) (od rfl id) (od rfl id) b_lss_28)
      (cc rfl (p_or g0 (od rfl id) (od rfl id))
      (cc rfl (p_assign g0 (od rfl id)) cn))))))))))))) fun a2 w2 b2 s2 => ?_
  have z2 := z1.trans (b2.mono z1.size)
  exact wp_ret (ret_tmp (fn := Try.f60) s2 4 rfl rfl (fun _ h => h) z2)

end Go.Proofs.Ytbeeiecbbmiojaa.Y

/- Yse: slices.Sort at uint64: insertionSort, reverseRange -/
namespace Go.Proofs.Ytbeeiecbbmiojaa.Y
open Go.RowKit Go.ChangeShapes Go.WideShapes Go.ChangeAt Go.ChangeMaps Go.MapKept

open Go.Sort (ltInt swp insInner insOuter insertionSort reverseLoop reverseRange siftDown heapBuild heapPop heapSort)
theorem ins_go {a j : Nat} {d : Array Int} (h : (decide ((a : Int) < (j : Int)) && ltInt d[j]! d[j - 1]!) = true) : insInner ltInt a j d = insInner ltInt a (j - 1) (swp d j (j - 1)) := by
  rw [Bool.and_eq_true, decide_eq_true_eq] at h
  cases j with
  | zero => omega
  | succ j =>
    rw [insInner, if_pos (by rw [Bool.and_eq_true, decide_eq_true_eq]; exact ⟨by omega, h.2⟩)]
    rfl
theorem ins_end {a j : Nat} {d : Array Int} (h : (decide ((a : Int) < (j : Int)) && ltInt d[j]! d[j - 1]!) = false) : insInner ltInt a j d = d := by
  cases j with
  | zero => rfl
  | succ j =>
    rw [insInner, if_neg (fun h2 => by
      rw [Bool.and_eq_true, decide_eq_true_eq] at h2
      rw [show ltInt d[j + 1]! d[j + 1 - 1]! = true from h2.2, Bool.and_true, decide_eq_false_iff_not] at h
      omega)]
theorem out_go {a b i : Nat} {d : Array Int} (h : i < b) : insOuter ltInt a b i d = insOuter ltInt a b (i + 1) (insInner ltInt a i d) := by rw [insOuter, if_pos h]
theorem out_end {a b i : Nat} {d : Array Int} (h : ¬ i < b) : insOuter ltInt a b i d = d := by rw [insOuter, if_neg h]
theorem rev_go {i j : Nat} {d : Array Int} (h : i < j) : reverseLoop i j d = reverseLoop (i + 1) (j - 1) (swp d i j) := by rw [reverseLoop, if_pos h]
theorem rev_end {i j : Nat} {d : Array Int} (h : ¬ i < j) : reverseLoop i j d = d := by rw [reverseLoop, if_neg h]
set_option maxRecDepth 100000 in

/-- insertionSortOrdered at uint64. -/
theorem cIns {w : World} {g cap n : Nat} {d : Array Int} {a b : Nat} (hD : RowD w g cap n d) (hn : n < 4611686018427387904) (hab : a ≤ b) (hb : b ≤ n) : Calls Try.prog 78 #[slD g n cap, .int .i64 (a : Int), .int .i64 (b : Int)] w fun e w' => e = .returned (.tuple #[]) ∧ RowD w' g cap n (insertionSort ltInt d a b) ∧ OnlyB (fun i => i = g) w w' := by
  have z0 : OnlyB (fun i => i = g) w w := OnlyB.refl _ _
  go_enter Try.func78, Try.ntmps78
  refine wp_seq ?_
  refine flowC mixed (st0 (U := False) (N := 49) (e := [(0, true, .val (slD g n cap)), (1, true, .val (.int .i64 (a : Int))), (2, true, .val (.int .i64 (b : Int)))]) (F := noF) rfl rfl (fok_no _ _) ⟨⟨rfl, rfl⟩, ⟨⟨rfl, rfl⟩, ⟨⟨rfl, rfl⟩, True.intro⟩⟩⟩) (by kernel_rfl) (by kernel_rfl) (cc rfl (p_move g0 (od rfl id))
      (cc rfl (p_binC (m' := ((a + 1 : Nat) : Int)) (fun _ => by rw [IntKind.wrap_i64]; omega) g0 (od rfl id) (oc _) b_add_3)
      (cc rfl (p_assign g0 (od rfl id)) cn))) fun a1 w1 b1 s1 => ?_
  have z1 := z0.below b1
  have hD := hD.below b1
  refine wp_block ?_
  refine wp_loopK (fun k ac wr => ∃ i d', k = b - i ∧ a + 1 ≤ i ∧ RowD wr g cap n d' ∧ insOuter ltInt a b i d' = insertionSort ltInt d a b ∧ OnlyB (fun i => i = g) w wr ∧ StE False 49 [(0, true, .val (slD g n cap)), (1, true, .val (.int .i64 (a : Int))), (2, true, .val (.int .i64 (b : Int))), (6, true, .int .i64 (i : Int))] noF ac wr) (b - (a + 1)) ⟨a + 1, d, rfl, Nat.le_refl _, hD, rfl, z1, s1.to _ ⟨rfl, rfl, rfl, rfl, True.intro⟩⟩ fun k a2 w2 hI => ?_
  obtain ⟨i, d1, rfl, hai, hD, heq, z2, s2⟩ := hI
  refine wp_seq ?_
  refine wp_seq ?_
  refine flowC mixed (s2.keep (sc 0 rfl (sc 1 rfl (sc 2 rfl (sc 6 rfl sn))))) (by kernel_rfl) (by kernel_rfl) (cc rfl (p_move g0 (od rfl id))
      (cc rfl (p_move g0 (od rfl id))
      (cc rfl (p_bin g0 (od rfl id) (od rfl id) b_lss_3) cn))) fun a3 w3 b3 s3 => ?_
  have z3 := z2.below b3
  have hD := hD.below b3
  refine s3.cond 12 rfl (fun h12 => ?_) (fun h12 => ?_)
  · -- true
    have hib : i < b := by have := of_decide_eq_true h12; (try dsimp only at this); omega
    rw [out_go hib] at heq
    refine wp_skip ?_
    refine wp_seq ?_
    refine wp_block ?_
    refine wp_seq ?_
    refine flowC mixed (s3.keep (sc 0 rfl (sc 1 rfl (sc 2 rfl (sc 6 rfl (sc 10 rfl (sc 11 rfl (sc 12 rfl sn)))))))) (by kernel_rfl) (by kernel_rfl) (cc rfl (p_move g0 (od rfl id))
        (cc rfl (p_assign g0 (od rfl id)) cn)) fun a4 w4 b4 s4 => ?_
    have z4 := z3.below b4
    have hD := hD.below b4
    refine wp_block ?_
    refine wp_loopK (fun k ac wr => ∃ d', k ≤ i ∧ RowD wr g cap n d' ∧ insOuter ltInt a b (i + 1) (insInner ltInt a k d') = insertionSort ltInt d a b ∧ OnlyB (fun i => i = g) w wr ∧ StE False 49 [(0, true, .val (slD g n cap)), (1, true, .val (.int .i64 (a : Int))), (2, true, .val (.int .i64 (b : Int))), (6, true, .int .i64 (i : Int)), (7, true, .int .i64 (k : Int))] noF ac wr) i ⟨d1, Nat.le_refl _, hD, heq, z4, s4.to _ ⟨rfl, rfl, rfl, rfl, rfl, True.intro⟩⟩ fun j a5 w5 hI => ?_
    obtain ⟨d2, hji, hD, heq, z5, s5⟩ := hI
    refine wp_seq ?_
    refine wp_seq ?_
    have s5 := s5.more 0 (y := .rowD g n cap d2) (at_rowD hD (s5.get 0 rfl))
    refine flowC mixed (s5.keep (sc 0 rfl (sc 1 rfl (sc 2 rfl (sc 6 rfl (sc 7 rfl sn)))))) (by kernel_rfl) (by kernel_rfl) (cc rfl (p_move g0 (od rfl id))
        (cc rfl (p_move g0 (od rfl id))
        (cc rfl (p_bin g0 (od rfl id) (od rfl id) b_gtr_3)
        (cc rfl (p_move g0 (od rfl id))
        (cc rfl (p_move (g1 rfl rfl) (od rfl (fun _ => rfl)))
        (cc rfl (p_move (g1 rfl rfl) (od rfl (fun _ => rfl)))
        (cc rfl (p_idxD (i := j) (fun h => by simp at h; omega) (g1 rfl rfl) (od rfl id) (od rfl id))
        (cc rfl (p_ldD (g1 rfl rfl) (od rfl id))
        (cc rfl (p_move (g1 rfl rfl) (od rfl (fun _ => rfl)))
        (cc rfl (p_move (g1 rfl rfl) (od rfl (fun _ => rfl)))
        (cc rfl (p_binC (m' := ((j - 1 : Nat) : Int)) (fun h => by simp at h; rw [IntKind.wrap_i64]; omega) (g1 rfl rfl) (od rfl id) (oc _) b_sub_3)
        (cc rfl (p_idxD (i := j - 1) (fun h => by simp at h; omega) (g1 rfl rfl) (od rfl id) (od rfl id))
        (cc rfl (p_ldD (g1 rfl rfl) (od rfl id))
        (cc rfl (p_call 60 (g1 rfl rfl) (ox (od rfl id) (ox (od rfl id) ox0)) (fun _ _ => by kernel_rfl) f60)
        (cc rfl (p_and g0 (od rfl id) (od rfl id)) cn))))))))))))))) fun a6 w6 b6 s6 => ?_
    have z6 := z5.below b6
    have hD := hD.below b6
    have s6 := s6.more 0 (y := .val (slD g n cap)) (s6.get 0 rfl).1
    refine s6.cond 30 rfl (fun h30 => ?_) (fun h30 => ?_)
    · -- true
      have haj : a < j := by rw [Bool.and_eq_true, decide_eq_true_eq] at h30; have := h30.1; omega
      rw [ins_go h30] at heq
      refine wp_skip ?_
      refine wp_seq ?_
      refine wp_block ?_
      refine flowD 15 47 42 (i := j) (z := d2[(j - 1)]!) (vv 0 rfl (vv 1 rfl (vv 2 rfl (vv 6 rfl (vv 7 rfl vn))))) (by omega) s6 hD ⟨_, _, _, rfl⟩ (by kernel_rfl) (by kernel_rfl) (lc rfl (p_move g0 (od rfl id))
          (lc rfl (p_move g0 (od rfl id))
          (lc rfl (p_move g0 (od rfl id))
          (lc rfl (p_move g0 (od rfl id))
          (lc rfl (p_binC (m' := ((j - 1 : Nat) : Int)) (fun _ => by rw [IntKind.wrap_i64]; omega) g0 (od rfl id) (oc _) b_sub_3)
          (lc rfl (p_move g0 (od rfl id))
          (lc rfl (p_move g0 (od rfl id))
          (lc rfl (p_binC (m' := ((j - 1 : Nat) : Int)) (fun _ => by rw [IntKind.wrap_i64]; omega) g0 (od rfl id) (oc _) b_sub_3)
          (lc rfl (p_idxVD (i := (j - 1)) (by omega) g0 (od rfl id) (od rfl id))
          (ll rfl (p_ldL (i := (j - 1)) (by omega) g0 (od rfl id))
          (lc rfl (p_move g0 (od rfl id))
          (lc rfl (p_move g0 (od rfl id))
          (lc rfl (p_idxVD (i := j) (by omega) g0 (od rfl id) (od rfl id))
          (ll rfl (p_ldL (i := j) (by omega) g0 (od rfl id))
          (lc rfl (p_idxVD (i := j) (by omega) g0 (od rfl id) (od rfl id)) ln))))))))))))))) (by kernel_rfl) rfl rfl (vv 0 rfl (vv 1 rfl (vv 2 rfl (vv 6 rfl (vv 7 rfl (vv 35 rfl (vv 37 rfl (vv 46 rfl vn)))))))) fun a7 w7 hD gS s7 => ?_
      have z7 := z6.grown gS (fun x _ e => by injection e with e; exact e.symm)
      refine chainK 1 (cc rfl (p_idxVD (i := (j - 1)) (by omega) g0 (od rfl id) (od rfl id)) cn) (by kernel_rfl) s7 fun a8 w8 b8 s8 => ?_
      have z8 := z7.below b8
      have hD := hD.below b8
      show wpList _ _ _ (_ :: _) _ _
      refine storeD_on (i := (j - 1)) (x := d2[j]!) s8 rfl rfl rfl (s8.get 48 rfl) (s8.get 46 rfl) hD (by omega) (vv 0 rfl (vv 1 rfl (vv 2 rfl (vv 6 rfl (vv 7 rfl vn))))) fun a9 w9 hD gS s9 => ?_
      have z9 := z8.grown gS (fun x _ e => by injection e with e; exact e.symm)
      have hD : RowD w9 g cap n (swp d2 j (j - 1)) := hD
      refine wpList_done ?_
      refine flowT (s9.keep (sc 0 rfl (sc 1 rfl (sc 2 rfl (sc 6 rfl (sc 7 rfl sn)))))) (by kernel_rfl) (cc rfl (p_move g0 (od rfl id))
          (cc rfl (p_binC (m' := ((j - 1 : Nat) : Int)) (fun _ => by rw [IntKind.wrap_i64]; omega) g0 (od rfl id) (oc _) b_sub_3)
          (cc rfl (p_assign g0 (od rfl id)) cn))) fun a10 w10 b10 s10 => ?_
      have z10 := z9.below b10
      have hD := hD.below b10
      exact ⟨j - 1, by omega, _, by omega, hD, heq, z10, s10.to _ ⟨rfl, rfl, rfl, rfl, rfl, True.intro⟩⟩
    · -- false
      rw [ins_end h30] at heq
      refine wp_exit ?_
      refine flowT (s6.keep (sc 0 rfl (sc 1 rfl (sc 2 rfl (sc 6 rfl (sc 7 rfl (sc 16 rfl (sc 17 rfl (sc 18 rfl (sc 19 rfl (sc 20 rfl (sc 21 rfl (sc 22 rfl (sc 23 rfl (sc 24 rfl (sc 25 rfl (sc 26 rfl (sc 27 rfl (sc 28 rfl (sc 29 rfl (sc 30 rfl sn))))))))))))))))))))) (by kernel_rfl) (cc rfl (p_move g0 (od rfl id))
          (cc rfl (p_binC (m' := ((i + 1 : Nat) : Int)) (fun _ => by rw [IntKind.wrap_i64]; omega) g0 (od rfl id) (oc _) b_add_3)
          (cc rfl (p_assign g0 (od rfl id)) cn))) fun a11 w11 b11 s11 => ?_
      have z11 := z6.below b11
      have hD := hD.below b11
      exact ⟨b - (i + 1), by omega, i + 1, _, rfl, by omega, hD, heq, z11, s11.to _ ⟨rfl, rfl, rfl, rfl, True.intro⟩⟩
  · -- false
    have hib : ¬ i < b := by have := of_decide_eq_false h12; (try dsimp only at this); omega
    rw [out_end hib] at heq
    rw [heq] at hD
    refine wp_exit ?_
    exact end_n (fn := Try.f78) (R := fun w' => RowD w' g cap n (insertionSort ltInt d a b) ∧ OnlyB (fun i => i = g) w w') s3 rfl ⟨hD, z3⟩
set_option maxRecDepth 100000 in

/-- reverseRangeOrdered at uint64. -/
theorem cRev {w : World} {g cap n : Nat} {d : Array Int} {a b : Nat} (hD : RowD w g cap n d) (hn : n < 4611686018427387904) (hab : a < b) (hb : b ≤ n) : Calls Try.prog 82 #[slD g n cap, .int .i64 (a : Int), .int .i64 (b : Int)] w fun e w' => e = .returned (.tuple #[]) ∧ RowD w' g cap n (reverseRange d a b) ∧ OnlyB (fun i => i = g) w w' := by
  have z0 : OnlyB (fun i => i = g) w w := OnlyB.refl _ _
  go_enter Try.func82, Try.ntmps82
  refine wp_seq ?_
  refine flowC mixed (st0 (U := False) (N := 32) (e := [(0, true, .val (slD g n cap)), (1, true, .val (.int .i64 (a : Int))), (2, true, .val (.int .i64 (b : Int)))]) (F := noF) rfl rfl (fok_no _ _) ⟨⟨rfl, rfl⟩, ⟨⟨rfl, rfl⟩, ⟨⟨rfl, rfl⟩, True.intro⟩⟩⟩) (by kernel_rfl) (by kernel_rfl) (cc rfl (p_move g0 (od rfl id))
      (cc rfl (p_assign g0 (od rfl id)) cn)) fun a1 w1 b1 s1 => ?_
  have z1 := z0.below b1
  have hD := hD.below b1
  refine wp_seq ?_
  refine flowC mixed (s1.keep (sc 0 rfl (sc 2 rfl (sc 6 rfl sn)))) (by kernel_rfl) (by kernel_rfl) (cc rfl (p_move g0 (od rfl id))
      (cc rfl (p_binC (m' := ((b - 1 : Nat) : Int)) (fun _ => by rw [IntKind.wrap_i64]; omega) g0 (od rfl id) (oc _) b_sub_3)
      (cc rfl (p_assign g0 (od rfl id)) cn))) fun a2 w2 b2 s2 => ?_
  have z2 := z1.below b2
  have hD := hD.below b2
  refine wp_block ?_
  refine wp_loopK (fun k ac wr => ∃ i j d', k = j - i ∧ a ≤ i ∧ j < b ∧ RowD wr g cap n d' ∧ reverseLoop i j d' = reverseRange d a b ∧ OnlyB (fun i => i = g) w wr ∧ StE False 32 [(0, true, .val (slD g n cap)), (6, true, .int .i64 (i : Int)), (7, true, .int .i64 (j : Int))] noF ac wr) (b - 1 - a) ⟨a, b - 1, d, rfl, Nat.le_refl _, by omega, hD, rfl, z2, s2.to _ ⟨rfl, rfl, rfl, True.intro⟩⟩ fun k a3 w3 hI => ?_
  obtain ⟨i, j, d1, rfl, hai, hjb, hD, heq, z3, s3⟩ := hI
  refine wp_seq ?_
  refine wp_seq ?_
  refine flowC mixed (s3.keep (sc 0 rfl (sc 6 rfl (sc 7 rfl sn)))) (by kernel_rfl) (by kernel_rfl) (cc rfl (p_move g0 (od rfl id))
      (cc rfl (p_move g0 (od rfl id))
      (cc rfl (p_bin g0 (od rfl id) (od rfl id) b_lss_3) cn))) fun a4 w4 b4 s4 => ?_
  have z4 := z3.below b4
  have hD := hD.below b4
  refine s4.cond 13 rfl (fun h13 => ?_) (fun h13 => ?_)
  · -- true
    have hij : i < j := by have := of_decide_eq_true h13; (try dsimp only at this); omega
    rw [rev_go hij] at heq
    refine wp_skip ?_
    refine wp_block ?_
    refine wp_seq ?_
    refine flowD 13 26 21 (i := i) (z := d1[j]!) (vv 0 rfl (vv 6 rfl (vv 7 rfl vn))) (by omega) s4 hD ⟨_, _, _, rfl⟩ (by kernel_rfl) (by kernel_rfl) (lc rfl (p_move g0 (od rfl id))
        (lc rfl (p_move g0 (od rfl id))
        (lc rfl (p_move g0 (od rfl id))
        (lc rfl (p_move g0 (od rfl id))
        (lc rfl (p_move g0 (od rfl id))
        (lc rfl (p_move g0 (od rfl id))
        (lc rfl (p_idxVD (i := j) (by omega) g0 (od rfl id) (od rfl id))
        (ll rfl (p_ldL (i := j) (by omega) g0 (od rfl id))
        (lc rfl (p_move g0 (od rfl id))
        (lc rfl (p_move g0 (od rfl id))
        (lc rfl (p_idxVD (i := i) (by omega) g0 (od rfl id) (od rfl id))
        (ll rfl (p_ldL (i := i) (by omega) g0 (od rfl id))
        (lc rfl (p_idxVD (i := i) (by omega) g0 (od rfl id) (od rfl id)) ln))))))))))))) (by kernel_rfl) rfl rfl (vv 0 rfl (vv 6 rfl (vv 7 rfl (vv 16 rfl (vv 17 rfl (vv 25 rfl vn)))))) fun a5 w5 hD gS s5 => ?_
    have z5 := z4.grown gS (fun x _ e => by injection e with e; exact e.symm)
    refine chainK 1 (cc rfl (p_idxVD (i := j) (by omega) g0 (od rfl id) (od rfl id)) cn) (by kernel_rfl) s5 fun a6 w6 b6 s6 => ?_
    have z6 := z5.below b6
    have hD := hD.below b6
    show wpList _ _ _ (_ :: _) _ _
    refine storeD_on (i := j) (x := d1[i]!) s6 rfl rfl rfl (s6.get 27 rfl) (s6.get 25 rfl) hD (by omega) (vv 0 rfl (vv 6 rfl (vv 7 rfl vn))) fun a7 w7 hD gS s7 => ?_
    have z7 := z6.grown gS (fun x _ e => by injection e with e; exact e.symm)
    have hD : RowD w7 g cap n (swp d1 i j) := hD
    refine wpList_done ?_
    refine wp_seq ?_
    refine flowT (s7.keep (sc 0 rfl (sc 6 rfl (sc 7 rfl sn)))) (by kernel_rfl) (cc rfl (p_move g0 (od rfl id))
        (cc rfl (p_binC (m' := ((i + 1 : Nat) : Int)) (fun _ => by rw [IntKind.wrap_i64]; omega) g0 (od rfl id) (oc _) b_add_3)
        (cc rfl (p_assign g0 (od rfl id)) cn))) fun a8 w8 b8 s8 => ?_
    have z8 := z7.below b8
    have hD := hD.below b8
    refine flowT (s8.keep (sc 0 rfl (sc 6 rfl (sc 7 rfl (sc 28 rfl (sc 29 rfl sn)))))) (by kernel_rfl) (cc rfl (p_move g0 (od rfl id))
        (cc rfl (p_binC (m' := ((j - 1 : Nat) : Int)) (fun _ => by rw [IntKind.wrap_i64]; omega) g0 (od rfl id) (oc _) b_sub_3)
        (cc rfl (p_assign g0 (od rfl id)) cn))) fun a9 w9 b9 s9 => ?_
    have z9 := z8.below b9
    have hD := hD.below b9
    exact ⟨j - 1 - (i + 1), by omega, i + 1, j - 1, _, rfl, by omega, by omega, hD, heq, z9, s9.to _ ⟨rfl, rfl, rfl, True.intro⟩⟩
  · -- false
    have hij : ¬ i < j := by have := of_decide_eq_false h13; (try dsimp only at this); omega
    rw [rev_end hij] at heq
    rw [heq] at hD
    refine wp_exit ?_
    exact end_n (fn := Try.f82) (R := fun w' => RowD w' g cap n (reverseRange d a b) ∧ OnlyB (fun i => i = g) w w') s4 rfl ⟨hD, z4⟩

end Go.Proofs.Ytbeeiecbbmiojaa.Y

/- Ysf: slices.Sort at uint64: siftDown, heapSort -/
namespace Go.Proofs.Ytbeeiecbbmiojaa.Y
open Go.RowKit Go.ChangeShapes Go.WideShapes Go.ChangeAt Go.ChangeMaps Go.MapKept

open Go.Sort (ltInt swp siftDown heapBuild heapPop heapSort)
theorem calls_n {P : Program} {f : FuncId} {vs : Array Value} {w : World} {R : World → Prop} (h : Calls P f vs w fun e w' => e = .returned (.tuple #[]) ∧ R w') : Calls P f vs w fun e w' => ∃ v, e = .returned v ∧ R w' := h.mono (by rintro e w' ⟨rfl, h⟩; exact ⟨_, rfl, h⟩)
theorem ac {a : Act} {x : Operand} {v : Value} {xs : List Operand} {vs : List Value} (h : a.eval x = v) (h2 : xs.map a.eval = vs) : (x :: xs).map a.eval = v :: vs := by
  rw [List.map_cons, h, h2]
theorem an0 {a : Act} : ([] : List Operand).map a.eval = [] := rfl
section
variable {P : Program} {Q : Exit → Act → World → Prop} {ops : Array Oper} {rest : List Oper} {o : Oper} {N : Nat} {e e2 : Env} {a : Act} {w : World}
/-- A call in the text's order, without a result. -/
theorem callN {f : FuncId} {d : Nat} {R : World → Prop} (A : List Operand) (vs : List Value) (h : StE False N e noF a w) (hw : Region.wanted o (yielded ops a.tmps) = true) (hr : CallRun P o A f) (hd : o.dst = some d) (hdN : decide (d < N) = true) (ha : A.map a.eval = vs)
    (HC : Calls P f vs.toArray w fun e w' => e = .returned (.tuple #[]) ∧ R w') (hv : ValsB e e2)
    (hQ : ∀ v a' w', R w' → StE False N ((d, true, .val v) :: e2) noF a' w' → wpList P ops Q rest a' w') : wpList P ops Q (o :: rest) a w :=
  callO (R := fun _ w' => R w') A h hw hr hd hdN (by rw [ha]; exact calls_n HC) hv hQ
/-- A call in the text's order, with a result. -/
theorem callR {f : FuncId} {d : Nat} {R : Value → World → Prop} (A : List Operand) (vs : List Value) (h : StE False N e noF a w) (hw : Region.wanted o (yielded ops a.tmps) = true) (hr : CallRun P o A f) (hd : o.dst = some d) (hdN : decide (d < N) = true) (ha : A.map a.eval = vs)
    (HC : Calls P f vs.toArray w fun e w' => ∃ v, e = .returned v ∧ R v w') (hv : ValsB e e2)
    (hQ : ∀ v a' w', R v w' → StE False N ((d, true, .val v) :: e2) noF a' w' → wpList P ops Q rest a' w') : wpList P ops Q (o :: rest) a w :=
  callO (R := R) A h hw hr hd hdN (by rw [ha]; exact HC) hv hQ
end
section
variable {d : Nat} {t : TypeId} {p : String} {af : Array Edge} {g : Option (Nat × Bool)} {x x2 : Operand}
theorem b_quo_3 {a b : Nat} (hb : 0 < b) (ha : a < 9223372036854775808) : Run2 Try.prog ⟨some d, .binOp .quo 3 x x2 3, t, p, af, g⟩ x x2 (.int .i64 (a : Int)) (.int .i64 (b : Int)) (.int .i64 ((a / b : Nat) : Int)) := fun ev w h1 h2 => by
  have h4 : IntKind.i64.wrap ((a : Int) / (b : Int)) = (a : Int) / (b : Int) := by
    rw [IntKind.wrap_i64, show (a : Int) / (b : Int) = ((a / b : Nat) : Int) from rfl]
    have := Nat.div_le_self a b
    generalize a / b = q at *
    omega
  go_simp
  omega
end
/-! ### siftDown and heapSort, plain -/
theorem sd_stop {hi F r : Nat} {d : Array Int} (h : hi ≤ 2 * r + 1) : siftDown ltInt hi F r d = d := by rw [siftDown, dif_pos h]
theorem sd_right {hi F r : Nat} {d : Array Int} (h : ¬ hi ≤ 2 * r + 1) (h2 : 2 * r + 1 + 1 < hi) (h3 : ltInt d[F + (2 * r + 1)]! d[F + (2 * r + 1) + 1]! = true) :
    siftDown ltInt hi F r d = if !ltInt d[F + r]! d[F + (2 * r + 2)]! then d else siftDown ltInt hi F (2 * r + 2) (swp d (F + r) (F + (2 * r + 2))) := by
  rw [siftDown, dif_neg h, if_pos (by rw [h3, Bool.and_true]; exact decide_eq_true h2), dif_pos (by omega)]
theorem sd_left {hi F r : Nat} {d : Array Int} (h : ¬ hi ≤ 2 * r + 1) (h3 : (decide (2 * r + 1 + 1 < hi) && ltInt d[F + (2 * r + 1)]! d[F + (2 * r + 1) + 1]!) = false) :
    siftDown ltInt hi F r d = if !ltInt d[F + r]! d[F + (2 * r + 1)]! then d else siftDown ltInt hi F (2 * r + 1) (swp d (F + r) (F + (2 * r + 1))) := by
  rw [siftDown, dif_neg h, if_neg (by rw [h3]; simp)]
theorem hb_go {hi F k : Nat} {d : Array Int} : heapBuild ltInt hi F (k + 1) d = heapBuild ltInt hi F k (siftDown ltInt hi F k d) := rfl
theorem hp_go {F k : Nat} {d : Array Int} : heapPop ltInt F (k + 1) d = heapPop ltInt F k (siftDown ltInt k F 0 (swp d F (F + k))) := rfl
theorem dec_cast {a b : Nat} : decide ((a : Int) < (b : Int)) = decide (a < b) := by simp [Int.ofNat_lt]
set_option maxRecDepth 100000 in

/-- siftDownOrdered at uint64. -/
theorem cSift {w : World} {g cap n : Nat} {d : Array Int} {lo hi F : Nat} (hD : RowD w g cap n d) (hn : n < 4611686018427387904) (hlo : lo ≤ hi) (hb : F + hi ≤ n) : Calls Try.prog 92 #[slD g n cap, .int .i64 (lo : Int), .int .i64 (hi : Int), .int .i64 (F : Int)] w fun e w' => e = .returned (.tuple #[]) ∧ RowD w' g cap n (siftDown ltInt hi F lo d) ∧ OnlyB (fun i => i = g) w w' := by
  have z0 : OnlyB (fun i => i = g) w w := OnlyB.refl _ _
  go_enter Try.func92, Try.ntmps92
  refine wp_seq ?_
  refine flowC mixed (st0 (U := False) (N := 76) (e := [(0, true, .val (slD g n cap)), (1, true, .val (.int .i64 (lo : Int))), (2, true, .val (.int .i64 (hi : Int))), (3, true, .val (.int .i64 (F : Int)))]) (F := noF) rfl rfl (fok_no _ _) ⟨⟨rfl, rfl⟩, ⟨⟨rfl, rfl⟩, ⟨⟨rfl, rfl⟩, ⟨⟨rfl, rfl⟩, True.intro⟩⟩⟩⟩) (by kernel_rfl) (by kernel_rfl) (cc rfl (p_move g0 (od rfl id))
      (cc rfl (p_assign g0 (od rfl id)) cn)) fun a1 w1 b1 s1 => ?_
  have z1 := z0.below b1
  have hD := hD.below b1
  refine wp_block ?_
  refine wp_loopK (fun k ac wr => ∃ r d', k = hi - r ∧ r ≤ hi ∧ RowD wr g cap n d' ∧ siftDown ltInt hi F r d' = siftDown ltInt hi F lo d ∧ OnlyB (fun i => i = g) w wr ∧ StE False 76 [(0, true, .val (slD g n cap)), (2, true, .val (.int .i64 (hi : Int))), (3, true, .val (.int .i64 (F : Int))), (8, true, .int .i64 (r : Int))] noF ac wr) (hi - lo) ⟨lo, d, rfl, hlo, hD, rfl, z1, s1.to _ ⟨rfl, rfl, rfl, rfl, True.intro⟩⟩ fun k a2 w2 hI => ?_
  obtain ⟨r, d1, rfl, hr, hD, heq, z2, s2⟩ := hI
  refine wp_block ?_
  refine wp_seq ?_
  refine flowC mixed (s2.keep (sc 0 rfl (sc 2 rfl (sc 3 rfl (sc 8 rfl sn))))) (by kernel_rfl) (by kernel_rfl) (cc rfl (p_move g0 (od rfl id))
      (cc rfl (p_binC (m' := ((2 * r : Nat) : Int)) (fun _ => by rw [IntKind.wrap_i64]; omega) g0 (oc _) (od rfl id) b_mul_3)
      (cc rfl (p_binC (m' := ((2 * r + 1 : Nat) : Int)) (fun _ => by rw [IntKind.wrap_i64]; omega) g0 (od rfl id) (oc _) b_add_3)
      (cc rfl (p_assign g0 (od rfl id)) cn)))) fun a3 w3 b3 s3 => ?_
  have z3 := z2.below b3
  have hD := hD.below b3
  refine wp_seq ?_
  refine wp_seq ?_
  refine flowC mixed (s3.keep (sc 0 rfl (sc 2 rfl (sc 3 rfl (sc 8 rfl (sc 9 rfl (sc 11 rfl (sc 12 rfl (sc 13 rfl sn))))))))) (by kernel_rfl) (by kernel_rfl) (cc rfl (p_move g0 (od rfl id))
      (cc rfl (p_move g0 (od rfl id))
      (cc rfl (p_bin g0 (od rfl id) (od rfl id) b_geq_3) cn))) fun a4 w4 b4 s4 => ?_
  have z4 := z3.below b4
  have hD := hD.below b4
  refine s4.cond 16 rfl (fun h16 => ?_) (fun h16 => ?_)
  · -- true
    have hst : hi ≤ 2 * r + 1 := by have := of_decide_eq_true h16; (try dsimp only at this); omega
    rw [sd_stop hst] at heq
    rw [heq] at hD
    refine wp_exit ?_
    exact end_n (fn := Try.f92) (R := fun w' => RowD w' g cap n (siftDown ltInt hi F lo d) ∧ OnlyB (fun i => i = g) w w') s4 rfl ⟨hD, z4⟩
  · -- false
    have hgo : ¬ hi ≤ 2 * r + 1 := by have := of_decide_eq_false h16; (try dsimp only at this); omega
    refine wp_skip ?_
    refine wp_seq ?_
    refine wp_seq ?_
    have s4 := s4.more 0 (y := .rowD g n cap d1) (at_rowD hD (s4.get 0 rfl))
    refine flowC mixed (s4.keep (sc 0 rfl (sc 2 rfl (sc 3 rfl (sc 8 rfl (sc 9 rfl (sc 11 rfl (sc 12 rfl (sc 13 rfl (sc 14 rfl (sc 15 rfl (sc 16 rfl sn)))))))))))) (by kernel_rfl) (by kernel_rfl) (cc rfl (p_move g0 (od rfl id))
        (cc rfl (p_binC (m' := ((2 * r + 1 + 1 : Nat) : Int)) (fun _ => by rw [IntKind.wrap_i64]; omega) g0 (od rfl id) (oc _) b_add_3)
        (cc rfl (p_move g0 (od rfl id))
        (cc rfl (p_bin g0 (od rfl id) (od rfl id) b_lss_3)
        (cc rfl (p_move g0 (od rfl id))
        (cc rfl (p_move (g1 rfl rfl) (od rfl (fun _ => rfl)))
        (cc rfl (p_move (g1 rfl rfl) (od rfl (fun _ => rfl)))
        (cc rfl (p_move (g1 rfl rfl) (od rfl (fun _ => rfl)))
        (cc rfl (p_binC (m' := ((F + (2 * r + 1) : Nat) : Int)) (fun h => by simp at h; rw [IntKind.wrap_i64]; omega) (g1 rfl rfl) (od rfl id) (od rfl id) b_add_3)
        (cc rfl (p_idxD (i := F + (2 * r + 1)) (fun h => by simp at h; omega) (g1 rfl rfl) (od rfl id) (od rfl id))
        (cc rfl (p_ldD (g1 rfl rfl) (od rfl id))
        (cc rfl (p_move (g1 rfl rfl) (od rfl (fun _ => rfl)))
        (cc rfl (p_move (g1 rfl rfl) (od rfl (fun _ => rfl)))
        (cc rfl (p_move (g1 rfl rfl) (od rfl (fun _ => rfl)))
        (cc rfl (p_binC (m' := ((F + (2 * r + 1) : Nat) : Int)) (fun h => by simp at h; rw [IntKind.wrap_i64]; omega) (g1 rfl rfl) (od rfl id) (od rfl id) b_add_3)
        (cc rfl (p_binC (m' := ((F + (2 * r + 1) + 1 : Nat) : Int)) (fun h => by simp at h; rw [IntKind.wrap_i64]; omega) (g1 rfl rfl) (od rfl id) (oc _) b_add_3)
        (cc rfl (p_idxD (i := F + (2 * r + 1) + 1) (fun h => by simp at h; omega) (g1 rfl rfl) (od rfl id) (od rfl id))
        (cc rfl (p_ldD (g1 rfl rfl) (od rfl id))
        (cc rfl (p_call 60 (g1 rfl rfl) (ox (od rfl id) (ox (od rfl id) ox0)) (fun _ _ => by kernel_rfl) f60)
        (cc rfl (p_and g0 (od rfl id) (od rfl id)) cn)))))))))))))))))))) fun a5 w5 b5 s5 => ?_
    have z5 := z4.below b5
    have hD := hD.below b5
    have s5 := s5.more 0 (y := .val (slD g n cap)) (s5.get 0 rfl).1
    refine s5.cond 36 rfl (fun h36 => ?_) (fun h36 => ?_)
    · -- true
      rw [dec_cast] at h36
      have h36' := h36
      rw [Bool.and_eq_true, decide_eq_true_eq] at h36'
      have hc2 := h36'.1
      rw [sd_right hgo h36'.1 h36'.2] at heq
      refine flowT (s5.keep (sc 0 rfl (sc 2 rfl (sc 3 rfl (sc 8 rfl (sc 9 rfl (sc 11 rfl (sc 12 rfl (sc 13 rfl (sc 14 rfl (sc 15 rfl (sc 16 rfl (sc 17 rfl (sc 18 rfl (sc 19 rfl (sc 20 rfl (sc 21 rfl (sc 22 rfl (sc 23 rfl (sc 24 rfl (sc 25 rfl (sc 26 rfl (sc 27 rfl (sc 28 rfl (sc 29 rfl (sc 30 rfl (sc 31 rfl (sc 32 rfl (sc 33 rfl (sc 34 rfl (sc 35 rfl (sc 36 rfl sn)))))))))))))))))))))))))))))))) (by kernel_rfl) (cc rfl (p_move g0 (od rfl id))
          (cc rfl (p_binC (m' := ((2 * r + 2 : Nat) : Int)) (fun _ => by rw [IntKind.wrap_i64]; omega) g0 (od rfl id) (oc _) b_add_3)
          (cc rfl (p_assign g0 (od rfl id)) cn))) fun a6 w6 b6 s6 => ?_
      have z6 := z5.below b6
      have hD := hD.below b6
      refine wp_seq ?_
      refine wp_seq ?_
      have s6 := s6.more 0 (y := .rowD g n cap d1) (at_rowD hD (s6.get 0 rfl))
      refine flowC mixed (s6.keep (sc 0 rfl (sc 2 rfl (sc 3 rfl (sc 8 rfl (sc 9 rfl (sc 11 rfl (sc 12 rfl (sc 13 rfl (sc 14 rfl (sc 15 rfl (sc 16 rfl (sc 17 rfl (sc 18 rfl (sc 19 rfl (sc 20 rfl (sc 21 rfl (sc 22 rfl (sc 23 rfl (sc 24 rfl (sc 25 rfl (sc 26 rfl (sc 27 rfl (sc 28 rfl (sc 29 rfl (sc 30 rfl (sc 31 rfl (sc 32 rfl (sc 33 rfl (sc 34 rfl (sc 35 rfl (sc 36 rfl (sc 37 rfl (sc 38 rfl sn)))))))))))))))))))))))))))))))))) (by kernel_rfl) (by kernel_rfl) (cc rfl (p_move g0 (od rfl id))
          (cc rfl (p_move g0 (od rfl id))
          (cc rfl (p_move g0 (od rfl id))
          (cc rfl (p_binC (m' := ((F + r : Nat) : Int)) (fun _ => by rw [IntKind.wrap_i64]; omega) g0 (od rfl id) (od rfl id) b_add_3)
          (cc rfl (p_idxD (i := F + r) (fun h => by omega) g0 (od rfl id) (od rfl id))
          (cc rfl (p_ldD g0 (od rfl id))
          (cc rfl (p_move g0 (od rfl id))
          (cc rfl (p_move g0 (od rfl id))
          (cc rfl (p_move g0 (od rfl id))
          (cc rfl (p_binC (m' := ((F + (2 * r + 2) : Nat) : Int)) (fun _ => by rw [IntKind.wrap_i64]; omega) g0 (od rfl id) (od rfl id) b_add_3)
          (cc rfl (p_idxD (i := F + (2 * r + 2)) (fun h => by omega) g0 (od rfl id) (od rfl id))
          (cc rfl (p_ldD g0 (od rfl id))
          (cc rfl (p_call 60 g0 (ox (od rfl id) (ox (od rfl id) ox0)) (fun _ _ => by kernel_rfl) f60)
          (cc rfl (p_not g0 (od rfl id)) cn)))))))))))))) fun a7 w7 b7 s7 => ?_
      have z7 := z6.below b7
      have hD := hD.below b7
      have s7 := s7.more 0 (y := .val (slD g n cap)) (s7.get 0 rfl).1
      refine s7.cond 52 rfl (fun h52 => ?_) (fun h52 => ?_)
      · -- true
        rw [if_pos h52] at heq
        rw [heq] at hD
        exact wp_ret (ret_n (fn := Try.f92) (R := fun w' => RowD w' g cap n (siftDown ltInt hi F lo d) ∧ OnlyB (fun i => i = g) w w') s7 rfl ⟨hD, z7⟩)
      · -- false
        rw [if_neg (by rw [h52]; simp)] at heq
        refine wp_skip ?_
        refine wp_seq ?_
        refine flowD 21 73 66 (i := (F + r)) (z := d1[(F + (2 * r + 2))]!) (vv 0 rfl (vv 2 rfl (vv 3 rfl (vv 8 rfl (vv 9 rfl vn))))) (by omega) s7 hD ⟨_, _, _, rfl⟩ (by kernel_rfl) (by kernel_rfl) (lc rfl (p_move g0 (od rfl id))
            (lc rfl (p_move g0 (od rfl id))
            (lc rfl (p_move g0 (od rfl id))
            (lc rfl (p_binC (m' := ((F + r : Nat) : Int)) (fun _ => by rw [IntKind.wrap_i64]; omega) g0 (od rfl id) (od rfl id) b_add_3)
            (lc rfl (p_move g0 (od rfl id))
            (lc rfl (p_move g0 (od rfl id))
            (lc rfl (p_move g0 (od rfl id))
            (lc rfl (p_binC (m' := ((F + (2 * r + 2) : Nat) : Int)) (fun _ => by rw [IntKind.wrap_i64]; omega) g0 (od rfl id) (od rfl id) b_add_3)
            (lc rfl (p_move g0 (od rfl id))
            (lc rfl (p_move g0 (od rfl id))
            (lc rfl (p_move g0 (od rfl id))
            (lc rfl (p_binC (m' := ((F + (2 * r + 2) : Nat) : Int)) (fun _ => by rw [IntKind.wrap_i64]; omega) g0 (od rfl id) (od rfl id) b_add_3)
            (lc rfl (p_idxVD (i := (F + (2 * r + 2))) (by omega) g0 (od rfl id) (od rfl id))
            (ll rfl (p_ldL (i := (F + (2 * r + 2))) (by omega) g0 (od rfl id))
            (lc rfl (p_move g0 (od rfl id))
            (lc rfl (p_move g0 (od rfl id))
            (lc rfl (p_move g0 (od rfl id))
            (lc rfl (p_binC (m' := ((F + r : Nat) : Int)) (fun _ => by rw [IntKind.wrap_i64]; omega) g0 (od rfl id) (od rfl id) b_add_3)
            (lc rfl (p_idxVD (i := (F + r)) (by omega) g0 (od rfl id) (od rfl id))
            (ll rfl (p_ldL (i := (F + r)) (by omega) g0 (od rfl id))
            (lc rfl (p_idxVD (i := (F + r)) (by omega) g0 (od rfl id) (od rfl id)) ln))))))))))))))))))))) (by kernel_rfl) rfl rfl (vv 0 rfl (vv 2 rfl (vv 3 rfl (vv 8 rfl (vv 9 rfl (vv 57 rfl (vv 60 rfl (vv 72 rfl vn)))))))) fun a8 w8 hD gS s8 => ?_
        have z8 := z7.grown gS (fun x _ e => by injection e with e; exact e.symm)
        refine chainK 1 (cc rfl (p_idxVD (i := (F + (2 * r + 2))) (by omega) g0 (od rfl id) (od rfl id)) cn) (by kernel_rfl) s8 fun a9 w9 b9 s9 => ?_
        have z9 := z8.below b9
        have hD := hD.below b9
        show wpList _ _ _ (_ :: _) _ _
        refine storeD_on (i := (F + (2 * r + 2))) (x := d1[(F + r)]!) s9 rfl rfl rfl (s9.get 74 rfl) (s9.get 72 rfl) hD (by omega) (vv 0 rfl (vv 2 rfl (vv 3 rfl (vv 8 rfl (vv 9 rfl vn))))) fun a10 w10 hD gS s10 => ?_
        have z10 := z9.grown gS (fun x _ e => by injection e with e; exact e.symm)
        have hD : RowD w10 g cap n (swp d1 (F + r) (F + (2 * r + 2))) := hD
        refine wpList_done ?_
        refine flowT (s10.keep (sc 0 rfl (sc 2 rfl (sc 3 rfl (sc 8 rfl (sc 9 rfl sn)))))) (by kernel_rfl) (cc rfl (p_move g0 (od rfl id))
            (cc rfl (p_assign g0 (od rfl id)) cn)) fun a11 w11 b11 s11 => ?_
        have z11 := z10.below b11
        have hD := hD.below b11
        exact ⟨hi - (2 * r + 2), by omega, 2 * r + 2, _, rfl, by omega, hD, heq, z11, s11.to _ ⟨rfl, rfl, rfl, rfl, True.intro⟩⟩
    · -- false
      rw [dec_cast] at h36
      have hc2 : 2 * r + 1 < hi := by omega
      rw [sd_left hgo h36] at heq
      refine wp_skip ?_
      refine wp_seq ?_
      refine wp_seq ?_
      have s5 := s5.more 0 (y := .rowD g n cap d1) (at_rowD hD (s5.get 0 rfl))
      refine flowC mixed (s5.keep (sc 0 rfl (sc 2 rfl (sc 3 rfl (sc 8 rfl (sc 9 rfl (sc 11 rfl (sc 12 rfl (sc 13 rfl (sc 14 rfl (sc 15 rfl (sc 16 rfl (sc 17 rfl (sc 18 rfl (sc 19 rfl (sc 20 rfl (sc 21 rfl (sc 22 rfl (sc 23 rfl (sc 24 rfl (sc 25 rfl (sc 26 rfl (sc 27 rfl (sc 28 rfl (sc 29 rfl (sc 30 rfl (sc 31 rfl (sc 32 rfl (sc 33 rfl (sc 34 rfl (sc 35 rfl (sc 36 rfl sn)))))))))))))))))))))))))))))))) (by kernel_rfl) (by kernel_rfl) (cc rfl (p_move g0 (od rfl id))
          (cc rfl (p_move g0 (od rfl id))
          (cc rfl (p_move g0 (od rfl id))
          (cc rfl (p_binC (m' := ((F + r : Nat) : Int)) (fun _ => by rw [IntKind.wrap_i64]; omega) g0 (od rfl id) (od rfl id) b_add_3)
          (cc rfl (p_idxD (i := F + r) (fun h => by omega) g0 (od rfl id) (od rfl id))
          (cc rfl (p_ldD g0 (od rfl id))
          (cc rfl (p_move g0 (od rfl id))
          (cc rfl (p_move g0 (od rfl id))
          (cc rfl (p_move g0 (od rfl id))
          (cc rfl (p_binC (m' := ((F + (2 * r + 1) : Nat) : Int)) (fun _ => by rw [IntKind.wrap_i64]; omega) g0 (od rfl id) (od rfl id) b_add_3)
          (cc rfl (p_idxD (i := F + (2 * r + 1)) (fun h => by omega) g0 (od rfl id) (od rfl id))
          (cc rfl (p_ldD g0 (od rfl id))
          (cc rfl (p_call 60 g0 (ox (od rfl id) (ox (od rfl id) ox0)) (fun _ _ => by kernel_rfl) f60)
          (cc rfl (p_not g0 (od rfl id)) cn)))))))))))))) fun a12 w12 b12 s12 => ?_
      have z12 := z5.below b12
      have hD := hD.below b12
      have s12 := s12.more 0 (y := .val (slD g n cap)) (s12.get 0 rfl).1
      refine s12.cond 52 rfl (fun h52 => ?_) (fun h52 => ?_)
      · -- true
        rw [if_pos h52] at heq
        rw [heq] at hD
        exact wp_ret (ret_n (fn := Try.f92) (R := fun w' => RowD w' g cap n (siftDown ltInt hi F lo d) ∧ OnlyB (fun i => i = g) w w') s12 rfl ⟨hD, z12⟩)
      · -- false
        rw [if_neg (by rw [h52]; simp)] at heq
        refine wp_skip ?_
        refine wp_seq ?_
        refine flowD 21 73 66 (i := (F + r)) (z := d1[(F + (2 * r + 1))]!) (vv 0 rfl (vv 2 rfl (vv 3 rfl (vv 8 rfl (vv 9 rfl vn))))) (by omega) s12 hD ⟨_, _, _, rfl⟩ (by kernel_rfl) (by kernel_rfl) (lc rfl (p_move g0 (od rfl id))
            (lc rfl (p_move g0 (od rfl id))
            (lc rfl (p_move g0 (od rfl id))
            (lc rfl (p_binC (m' := ((F + r : Nat) : Int)) (fun _ => by rw [IntKind.wrap_i64]; omega) g0 (od rfl id) (od rfl id) b_add_3)
            (lc rfl (p_move g0 (od rfl id))
            (lc rfl (p_move g0 (od rfl id))
            (lc rfl (p_move g0 (od rfl id))
            (lc rfl (p_binC (m' := ((F + (2 * r + 1) : Nat) : Int)) (fun _ => by rw [IntKind.wrap_i64]; omega) g0 (od rfl id) (od rfl id) b_add_3)
            (lc rfl (p_move g0 (od rfl id))
            (lc rfl (p_move g0 (od rfl id))
            (lc rfl (p_move g0 (od rfl id))
            (lc rfl (p_binC (m' := ((F + (2 * r + 1) : Nat) : Int)) (fun _ => by rw [IntKind.wrap_i64]; omega) g0 (od rfl id) (od rfl id) b_add_3)
            (lc rfl (p_idxVD (i := (F + (2 * r + 1))) (by omega) g0 (od rfl id) (od rfl id))
            (ll rfl (p_ldL (i := (F + (2 * r + 1))) (by omega) g0 (od rfl id))
            (lc rfl (p_move g0 (od rfl id))
            (lc rfl (p_move g0 (od rfl id))
            (lc rfl (p_move g0 (od rfl id))
            (lc rfl (p_binC (m' := ((F + r : Nat) : Int)) (fun _ => by rw [IntKind.wrap_i64]; omega) g0 (od rfl id) (od rfl id) b_add_3)
            (lc rfl (p_idxVD (i := (F + r)) (by omega) g0 (od rfl id) (od rfl id))
            (ll rfl (p_ldL (i := (F + r)) (by omega) g0 (od rfl id))
            (lc rfl (p_idxVD (i := (F + r)) (by omega) g0 (od rfl id) (od rfl id)) ln))))))))))))))))))))) (by kernel_rfl) rfl rfl (vv 0 rfl (vv 2 rfl (vv 3 rfl (vv 8 rfl (vv 9 rfl (vv 57 rfl (vv 60 rfl (vv 72 rfl vn)))))))) fun a13 w13 hD gS s13 => ?_
        have z13 := z12.grown gS (fun x _ e => by injection e with e; exact e.symm)
        refine chainK 1 (cc rfl (p_idxVD (i := (F + (2 * r + 1))) (by omega) g0 (od rfl id) (od rfl id)) cn) (by kernel_rfl) s13 fun a14 w14 b14 s14 => ?_
        have z14 := z13.below b14
        have hD := hD.below b14
        show wpList _ _ _ (_ :: _) _ _
        refine storeD_on (i := (F + (2 * r + 1))) (x := d1[(F + r)]!) s14 rfl rfl rfl (s14.get 74 rfl) (s14.get 72 rfl) hD (by omega) (vv 0 rfl (vv 2 rfl (vv 3 rfl (vv 8 rfl (vv 9 rfl vn))))) fun a15 w15 hD gS s15 => ?_
        have z15 := z14.grown gS (fun x _ e => by injection e with e; exact e.symm)
        have hD : RowD w15 g cap n (swp d1 (F + r) (F + (2 * r + 1))) := hD
        refine wpList_done ?_
        refine flowT (s15.keep (sc 0 rfl (sc 2 rfl (sc 3 rfl (sc 8 rfl (sc 9 rfl sn)))))) (by kernel_rfl) (cc rfl (p_move g0 (od rfl id))
            (cc rfl (p_assign g0 (od rfl id)) cn)) fun a16 w16 b16 s16 => ?_
        have z16 := z15.below b16
        have hD := hD.below b16
        exact ⟨hi - (2 * r + 1), by omega, 2 * r + 1, _, rfl, by omega, hD, heq, z16, s16.to _ ⟨rfl, rfl, rfl, rfl, True.intro⟩⟩
set_option maxRecDepth 100000 in

/-- heapSortOrdered at uint64. -/
theorem cHeap {w : World} {g cap n : Nat} {d : Array Int} {a b : Nat} (hD : RowD w g cap n d) (hn : n < 4611686018427387904) (hab : a < b) (hb : b ≤ n) : Calls Try.prog 79 #[slD g n cap, .int .i64 (a : Int), .int .i64 (b : Int)] w fun e w' => e = .returned (.tuple #[]) ∧ RowD w' g cap n (heapSort ltInt d a b) ∧ OnlyB (fun i => i = g) w w' := by
  have z0 : OnlyB (fun i => i = g) w w := OnlyB.refl _ _
  go_enter Try.func79, Try.ntmps79
  refine wp_seq ?_
  refine flowC mixed (st0 (U := False) (N := 56) (e := [(0, true, .val (slD g n cap)), (1, true, .val (.int .i64 (a : Int))), (2, true, .val (.int .i64 (b : Int)))]) (F := noF) rfl rfl (fok_no _ _) ⟨⟨rfl, rfl⟩, ⟨⟨rfl, rfl⟩, ⟨⟨rfl, rfl⟩, True.intro⟩⟩⟩) (by kernel_rfl) (by kernel_rfl) (cc rfl (p_move g0 (od rfl id))
      (cc rfl (p_assign g0 (od rfl id)) cn)) fun a1 w1 b1 s1 => ?_
  have z1 := z0.below b1
  have hD := hD.below b1
  refine wp_seq ?_
  refine flowC mixed (s1.keep (sc 0 rfl (sc 1 rfl (sc 2 rfl (sc 6 rfl sn))))) (by kernel_rfl) (by kernel_rfl) (cc rfl (p_assign g0 (oc _)) cn) fun a2 w2 b2 s2 => ?_
  have z2 := z1.below b2
  have hD := hD.below b2
  refine wp_seq ?_
  refine flowC mixed (s2.keep (sc 0 rfl (sc 1 rfl (sc 2 rfl (sc 6 rfl (sc 7 rfl sn)))))) (by kernel_rfl) (by kernel_rfl) (cc rfl (p_move g0 (od rfl id))
      (cc rfl (p_move g0 (od rfl id))
      (cc rfl (p_binC (m' := ((b - a : Nat) : Int)) (fun _ => by rw [IntKind.wrap_i64]; omega) g0 (od rfl id) (od rfl id) b_sub_3)
      (cc rfl (p_assign g0 (od rfl id)) cn)))) fun a3 w3 b3 s3 => ?_
  have z3 := z2.below b3
  have hD := hD.below b3
  refine wp_seq ?_
  refine wp_seq ?_
  refine flowC mixed (s3.keep (sc 0 rfl (sc 6 rfl (sc 7 rfl (sc 8 rfl sn))))) (by kernel_rfl) (by kernel_rfl) (cc rfl (p_move g0 (od rfl id))
      (cc rfl (p_binC (m' := ((b - a - 1 : Nat) : Int)) (fun _ => by rw [IntKind.wrap_i64]; omega) g0 (od rfl id) (oc _) b_sub_3)
      (cc rfl (p_binC (m' := (((b - a - 1) / 2 : Nat) : Int)) (fun _ => rfl) g0 (od rfl id) (oc _) (b_quo_3 (a := (b - a - 1)) (b := 2) (by omega) (by omega)))
      (cc rfl (p_assign g0 (od rfl id)) cn)))) fun a4 w4 b4 s4 => ?_
  have z4 := z3.below b4
  have hD := hD.below b4
  refine wp_block ?_
  have s4 := s4.more 9 (y := .int .i64 (((b - a - 1) / 2 + 1 : Nat) - 1 : Int)) ((s4.get 9 rfl).trans (by congr 1; omega))
  refine wp_loopK (fun k ac wr => ∃ d', k ≤ b - a ∧ RowD wr g cap n d' ∧ heapPop ltInt a (b - a) (heapBuild ltInt (b - a) a k d') = heapSort ltInt d a b ∧ OnlyB (fun i => i = g) w wr ∧ StE False 56 [(0, true, .val (slD g n cap)), (6, true, .val (.int .i64 (a : Int))), (7, true, .val (.int .i64 (0 : Int))), (8, true, .val (.int .i64 ((b - a : Nat) : Int))), (9, true, .int .i64 ((k : Int) - 1))] noF ac wr) ((b - a - 1) / 2 + 1) ⟨d, by omega, hD, rfl, z4, s4.to _ ⟨rfl, rfl, rfl, rfl, rfl, True.intro⟩⟩ fun kk a5 w5 hI => ?_
  obtain ⟨d1, hkl, hD, heq, z5, s5⟩ := hI
  refine wp_seq ?_
  refine wp_seq ?_
  refine flowC mixed (s5.keep (sc 0 rfl (sc 6 rfl (sc 7 rfl (sc 8 rfl (sc 9 rfl sn)))))) (by kernel_rfl) (by kernel_rfl) (cc rfl (p_move g0 (od rfl id))
      (cc rfl (p_bin g0 (od rfl id) (oc _) b_geq_3) cn)) fun a6 w6 b6 s6 => ?_
  have z6 := z5.below b6
  have hD := hD.below b6
  refine s6.cond 19 rfl (fun h19 => ?_) (fun h19 => ?_)
  · -- true
    obtain ⟨k, rfl⟩ : ∃ k, kk = k + 1 := ⟨kk - 1, by have := of_decide_eq_true h19; (try dsimp only at this); omega⟩
    rw [hb_go] at heq
    have s6 := s6.more 9 (y := .int .i64 (k : Int)) ((s6.get 9 rfl).trans (by congr 1; omega))
    refine wp_skip ?_
    refine wp_seq ?_
    refine wp_block ?_
    refine wp_region_lit ?_
    refine with_st (s6.keep (sc 0 rfl (sc 6 rfl (sc 7 rfl (sc 8 rfl (sc 9 rfl (sc 18 rfl (sc 19 rfl sn)))))))) fun s6 => ?_
    refine chainK 4 (cc rfl (p_move g0 (od rfl id))
        (cc rfl (p_move g0 (od rfl id))
        (cc rfl (p_move g0 (od rfl id))
        (cc rfl (p_move g0 (od rfl id)) cn)))) (by kernel_rfl) s6 fun a7 w7 b7 s7 => ?_
    have z7 := z6.below b7
    have hD := hD.below b7
    show wpList _ _ _ (_ :: _) _ _
    refine callN (R := fun w' => RowD w' g cap n (siftDown ltInt (b - a) a k d1) ∧ OnlyB (fun i => i = g) w7 w') [.tmp 22, .tmp 23, .tmp 24, .tmp 25] [slD g n cap, .int .i64 (k : Int), .int .i64 ((b - a : Nat) : Int), .int .i64 (a : Int)] s7 (by simp [Region.wanted]) (fun _ _ => by kernel_rfl) rfl (by decide) (ac (s7.get 22 rfl) (ac (s7.get 23 rfl) (ac (s7.get 24 rfl) (ac (s7.get 25 rfl) an0)))) (cSift hD hn (by omega) (by omega)) (vv 0 rfl (vv 6 rfl (vv 7 rfl (vv 8 rfl (vv 9 rfl vn))))) fun v8 a8 w8 hR8 s8 => ?_
    obtain ⟨hD, hz8⟩ := hR8
    have z8 := z7.trans hz8 (fun _ _ h => h)
    refine wpList_done ?_
    refine flowT (s8.keep (sc 0 rfl (sc 6 rfl (sc 7 rfl (sc 8 rfl (sc 9 rfl sn)))))) (by kernel_rfl) (cc rfl (p_move g0 (od rfl id))
        (cc rfl (p_binC (m' := (k : Int) - 1) (fun _ => by rw [IntKind.wrap_i64]; omega) g0 (od rfl id) (oc _) b_sub_3)
        (cc rfl (p_assign g0 (od rfl id)) cn))) fun a9 w9 b9 s9 => ?_
    have z9 := z8.below b9
    have hD := hD.below b9
    exact ⟨k, Nat.lt_succ_self k, _, by omega, hD, heq, z9, s9.to _ ⟨rfl, rfl, rfl, rfl, rfl, True.intro⟩⟩
  · -- false
    obtain rfl : kk = 0 := by have := of_decide_eq_false h19; (try dsimp only at this); omega
    refine wp_exit ?_
    refine wp_seq ?_
    refine flowC mixed (s6.keep (sc 0 rfl (sc 6 rfl (sc 7 rfl (sc 8 rfl (sc 9 rfl sn)))))) (by kernel_rfl) (by kernel_rfl) (cc rfl (p_move g0 (od rfl id))
        (cc rfl (p_binC (m' := ((b - a - 1 : Nat) : Int)) (fun _ => by rw [IntKind.wrap_i64]; omega) g0 (od rfl id) (oc _) b_sub_3)
        (cc rfl (p_assign g0 (od rfl id)) cn))) fun a10 w10 b10 s10 => ?_
    have z10 := z6.below b10
    have hD := hD.below b10
    refine wp_block ?_
    have s10 := s10.more 10 (y := .int .i64 (((b - a : Nat) : Int) - 1)) ((s10.get 10 rfl).trans (by congr 1; omega))
    refine wp_loopK (fun k ac wr => ∃ d', k ≤ b - a ∧ RowD wr g cap n d' ∧ heapPop ltInt a k d' = heapSort ltInt d a b ∧ OnlyB (fun i => i = g) w wr ∧ StE False 56 [(0, true, .val (slD g n cap)), (6, true, .val (.int .i64 (a : Int))), (7, true, .val (.int .i64 (0 : Int))), (10, true, .int .i64 ((k : Int) - 1))] noF ac wr) (b - a) ⟨d1, by omega, hD, heq, z10, s10.to _ ⟨rfl, rfl, rfl, rfl, True.intro⟩⟩ fun kk a11 w11 hI => ?_
    obtain ⟨d2, hkl, hD, heq, z11, s11⟩ := hI
    refine wp_seq ?_
    refine wp_seq ?_
    refine flowC mixed (s11.keep (sc 0 rfl (sc 6 rfl (sc 7 rfl (sc 10 rfl sn))))) (by kernel_rfl) (by kernel_rfl) (cc rfl (p_move g0 (od rfl id))
        (cc rfl (p_bin g0 (od rfl id) (oc _) b_geq_3) cn)) fun a12 w12 b12 s12 => ?_
    have z12 := z11.below b12
    have hD := hD.below b12
    refine s12.cond 30 rfl (fun h30 => ?_) (fun h30 => ?_)
    · -- true
      obtain ⟨k, rfl⟩ : ∃ k, kk = k + 1 := ⟨kk - 1, by have := of_decide_eq_true h30; (try dsimp only at this); omega⟩
      rw [hp_go] at heq
      have s12 := s12.more 10 (y := .int .i64 (k : Int)) ((s12.get 10 rfl).trans (by congr 1; omega))
      refine wp_skip ?_
      refine wp_seq ?_
      refine wp_block ?_
      refine wp_seq ?_
      refine flowD 17 49 44 (i := a) (z := d2[(a + k)]!) (vv 0 rfl (vv 6 rfl (vv 7 rfl (vv 10 rfl vn)))) (by omega) s12 hD ⟨_, _, _, rfl⟩ (by kernel_rfl) (by kernel_rfl) (lc rfl (p_move g0 (od rfl id))
          (lc rfl (p_move g0 (od rfl id))
          (lc rfl (p_move g0 (od rfl id))
          (lc rfl (p_move g0 (od rfl id))
          (lc rfl (p_move g0 (od rfl id))
          (lc rfl (p_binC (m' := ((a + k : Nat) : Int)) (fun _ => by rw [IntKind.wrap_i64]; omega) g0 (od rfl id) (od rfl id) b_add_3)
          (lc rfl (p_move g0 (od rfl id))
          (lc rfl (p_move g0 (od rfl id))
          (lc rfl (p_move g0 (od rfl id))
          (lc rfl (p_binC (m' := ((a + k : Nat) : Int)) (fun _ => by rw [IntKind.wrap_i64]; omega) g0 (od rfl id) (od rfl id) b_add_3)
          (lc rfl (p_idxVD (i := (a + k)) (by omega) g0 (od rfl id) (od rfl id))
          (ll rfl (p_ldL (i := (a + k)) (by omega) g0 (od rfl id))
          (lc rfl (p_move g0 (od rfl id))
          (lc rfl (p_move g0 (od rfl id))
          (lc rfl (p_idxVD (i := a) (by omega) g0 (od rfl id) (od rfl id))
          (ll rfl (p_ldL (i := a) (by omega) g0 (od rfl id))
          (lc rfl (p_idxVD (i := a) (by omega) g0 (od rfl id) (od rfl id)) ln))))))))))))))))) (by kernel_rfl) rfl rfl (vv 0 rfl (vv 6 rfl (vv 7 rfl (vv 10 rfl (vv 35 rfl (vv 38 rfl (vv 48 rfl vn))))))) fun a13 w13 hD gS s13 => ?_
      have z13 := z12.grown gS (fun x _ e => by injection e with e; exact e.symm)
      refine chainK 1 (cc rfl (p_idxVD (i := (a + k)) (by omega) g0 (od rfl id) (od rfl id)) cn) (by kernel_rfl) s13 fun a14 w14 b14 s14 => ?_
      have z14 := z13.below b14
      have hD := hD.below b14
      show wpList _ _ _ (_ :: _) _ _
      refine storeD_on (i := (a + k)) (x := d2[a]!) s14 rfl rfl rfl (s14.get 50 rfl) (s14.get 48 rfl) hD (by omega) (vv 0 rfl (vv 6 rfl (vv 7 rfl (vv 10 rfl vn)))) fun a15 w15 hD gS s15 => ?_
      have z15 := z14.grown gS (fun x _ e => by injection e with e; exact e.symm)
      have hD : RowD w15 g cap n (swp d2 a (a + k)) := hD
      refine wpList_done ?_
      refine wp_region_lit ?_
      refine with_st (s15.keep (sc 0 rfl (sc 6 rfl (sc 7 rfl (sc 10 rfl sn))))) fun s15 => ?_
      refine chainK 4 (cc rfl (p_move g0 (od rfl id))
          (cc rfl (p_move g0 (od rfl id))
          (cc rfl (p_move g0 (od rfl id))
          (cc rfl (p_move g0 (od rfl id)) cn)))) (by kernel_rfl) s15 fun a16 w16 b16 s16 => ?_
      have z16 := z15.below b16
      have hD := hD.below b16
      show wpList _ _ _ (_ :: _) _ _
      refine callN (R := fun w' => RowD w' g cap n (siftDown ltInt k a 0 (swp d2 a (a + k))) ∧ OnlyB (fun i => i = g) w16 w') [.tmp 51, .tmp 52, .tmp 53, .tmp 54] [slD g n cap, .int .i64 ((0 : Nat) : Int), .int .i64 (k : Int), .int .i64 (a : Int)] s16 (by simp [Region.wanted]) (fun _ _ => by kernel_rfl) rfl (by decide) (ac (s16.get 51 rfl) (ac (s16.get 52 rfl) (ac (s16.get 53 rfl) (ac (s16.get 54 rfl) an0)))) (cSift hD hn (by omega) (by omega)) (vv 0 rfl (vv 6 rfl (vv 7 rfl (vv 10 rfl vn)))) fun v17 a17 w17 hR17 s17 => ?_
      obtain ⟨hD, hz17⟩ := hR17
      have z17 := z16.trans hz17 (fun _ _ h => h)
      refine wpList_done ?_
      refine flowT (s17.keep (sc 0 rfl (sc 6 rfl (sc 7 rfl (sc 10 rfl sn))))) (by kernel_rfl) (cc rfl (p_move g0 (od rfl id))
          (cc rfl (p_binC (m' := (k : Int) - 1) (fun _ => by rw [IntKind.wrap_i64]; omega) g0 (od rfl id) (oc _) b_sub_3)
          (cc rfl (p_assign g0 (od rfl id)) cn))) fun a18 w18 b18 s18 => ?_
      have z18 := z17.below b18
      have hD := hD.below b18
      exact ⟨k, Nat.lt_succ_self k, _, by omega, hD, heq, z18, s18.to _ ⟨rfl, rfl, rfl, rfl, True.intro⟩⟩
    · -- false
      obtain rfl : kk = 0 := by have := of_decide_eq_false h30; (try dsimp only at this); omega
      have hD : RowD w12 g cap n (heapSort ltInt d a b) := by rw [← heq]; exact hD
      refine wp_exit ?_
      exact end_n (fn := Try.f79) (R := fun w' => RowD w' g cap n (heapSort ltInt d a b) ∧ OnlyB (fun i => i = g) w w') s12 rfl ⟨hD, z12⟩

end Go.Proofs.Ytbeeiecbbmiojaa.Y
