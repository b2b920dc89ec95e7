/- Yte: slices.DeleteFunc at numbers -/
import Derived.Test.YtbeeiecbbmiojaaYtd
namespace Go.Proofs.Ytbeeiecbbmiojaa.Y
open Go.RowKit Go.ChangeShapes Go.WideShapes Go.ChangeAt Go.ChangeMaps Go.MapKept

theorem OnlyB.to_grown {w w' : World} {r : Option Nat} (h : OnlyB (fun i => r = some i) w w') : w.grownBy w' r := ⟨h.os, h.tape, h.output, h.size, fun i hi hn => h.block i hi fun e => hn e.symm⟩
theorem p_run2 {U : Prop} {ops : Array Oper} {Q : Exit → Act → World → Prop} {N d : Nat} {e : Env} {t : TypeId} {p : String} {af : Array Edge} {g : Option (Nat × Bool)} {c : Bool} {x x2 : Operand} {op : Op} {v v2 r : Value} (hx : OpdE e c x (.val v)) (hx2 : OpdE e c x2 (.val v2)) (hr : Run2 Try.prog ⟨some d, op, t, p, af, g⟩ x x2 v v2 r) (hs : ∀ s ∈ slotsOf x, s ∈ op.operands.toList.flatMap slotsOf) (hs2 : ∀ s ∈ slotsOf x2, s ∈ op.operands.toList.flatMap slotsOf) (hg : GdE ops e g c) : Pays U Try.prog ops Q N e ⟨some d, op, t, p, af, g⟩ (c, .val r) :=
  pVal hg fun e a w F hk => ⟨r, hr _ w (hx a w F (fun s h => hk s (hs s h)) e) (hx2 a w F (fun s h => hk s (hs2 s h)) e), rfl⟩
theorem zc28 (n : Nat) : (Builtin.zeroCells (Value.int .u64 0).cells n).toList = List.replicate n (.int .u64 0) := by
  unfold Builtin.zeroCells
  apply List.ext_getElem
  · simp [Value.cells]
  · intro i h1 h2
    simp [Value.cells, Nat.mod_one]
theorem zero28 (w : World) : (zeroValue 28).run Try.prog w = .ok (.int .u64 0) w := by go_simp
theorem clear_on {Q : Exit → Act → World → Prop} {N : Nat} {e e2 : Env} {a : Act} {w : World} {ops : Array Oper} {rest : List Oper} {o : Oper} {g k n c : Nat} {cs : Array Value} {x : Operand} (h : StE False N e noF a w) (ho : o.op = .call { callee := .builtin .clear, args := #[x], argTypes := #[29] }) (hd : o.dst = none) (hgd : o.guard = none)
    (kx : a.eval x = .slice (some ⟨g, k, none⟩) n c) (hB : Blk w g 28 cs) (hk : k + n ≤ cs.size) (hn : 0 < n) (hv : ValsB e e2)
    (hQ : ∀ w', Blk w' g 28 (over cs k (List.replicate n (.int .u64 0))) → w.grownBy w' (some g) → StE False N e2 noF a w' → wpList Try.prog ops Q rest a w') : wpList Try.prog ops Q (o :: rest) a w := by
  refine wpList_plain hgd fun K hK => ?_
  have hr := run_clear_rows (P := Try.prog) w 29 28 o.type _ Try.underlying29 zero28 g k n c (by rw [zc28]; intro u hu; rw [List.eq_of_mem_replicate hu]; rfl) hn
      (by rw [zc28]; intro j hj; simp at hj; rw [hB.cell, Array.getElem?_eq_getElem (by omega)]; rfl) (by rw [zc28]; intro j _; exact hB.frozen _)
  rw [zc28] at hr
  have G : w.grownBy (w.setCells g k (List.replicate n (.int .u64 0))) (some g) := only_setCells _ k (only_refl w (some g))
  have hfin := hQ _ (hB.setCells (List.replicate n (.int .u64 0)) k (by simp; omega)) G (h.vals (fok_no _ _) hv)
  unfold Oper.wp execOp
  simp only [ho, resolve, invoke, builtin, Sem.run_bind, Sem.run_pure, Result.andThen_ok, List.map_toArray, List.map_cons, List.map_nil, kx, hr]
  refine hK _ _ ?_
  rw [hd]
  exact hfin
section
variable {w0 wr wr' : World} {g gb c j k : Nat} {l : List Int} {x m : Int} {cs : Array Value}
theorem DK.below (h : DK w0 g gb c l x j k cs wr) (hb : Below wr.heap.size wr wr') : DK w0 g gb c l x j k cs wr' := ⟨h.bl.below hb h.bl.lt, h.sz, h.lo, h.hi, h.kj, h.jn, h.bx.below hb h.bx.lt, only_trans h.z (only_of_below hb _)⟩
theorem DK.skip (h : DK w0 g gb c l x j k cs wr) (hm : l[j]? = some m) (e : (m == x) = true) : DK w0 g gb c l x (j + 1) k cs wr :=
  ⟨h.bl, h.sz, by rw [take_filter_succ hm, if_pos e, List.append_nil]; exact h.lo, fun q m hq => h.hi q m (by omega), by have := h.kj; omega, (List.getElem?_eq_some_iff.1 hm).1, h.bx, h.z⟩
theorem over_take {cs : Array Value} {k : Nat} {v : Value} (h : k < cs.size) : (over cs k [v]).toList.take (k + 1) = cs.toList.take k ++ [v] := by
  unfold over
  rw [List.toList_toArray, List.take_append, List.take_of_length_le (by simp; omega)]
  have : min k cs.size = k := by omega
  simp [this]
theorem over_far {cs : Array Value} {k q : Nat} {v : Value} (h : k < q) (hk : k < cs.size) : (over cs k [v])[q]? = cs[q]? := by
  unfold over
  rw [List.getElem?_toArray, List.getElem?_append_right (by simp; omega)]
  simp
  have : min k cs.size = k := by omega
  rw [this, show k + 1 + (q - (k + 1)) = q by omega]
theorem DK.put (h : DK w0 g gb c l x j k cs wr) (hm : l[j]? = some m) (e : (m == x) = false) (hc : l.length ≤ c) (hne : g ≠ gb) (hB : Blk wr' g 28 (over cs (0 + k * 1) [.int .u64 m])) (hg : wr.grownBy wr' (some g)) : DK w0 g gb c l x (j + 1) (k + 1) (over cs k [.int .u64 m]) wr' := by
  have hj := (List.getElem?_eq_some_iff.1 hm).1
  have hkj := h.kj
  have hsz := h.sz
  rw [show 0 + k * 1 = k by omega] at hB
  refine ⟨hB, ?_, ?_, fun q m' hq hm' => ?_, by omega, hj, h.bx.grown hg (fun e => hne (by injection e with e; exact e.symm)), only_trans h.z hg⟩
  · unfold over; simp; omega
  · rw [over_take (by omega), take_filter_succ hm, e, List.flatMap_append, h.lo]; rfl
  · rw [over_far (by omega) (by omega)]
    exact h.hi q m' (by omega) hm'
end
theorem sz_28 : (Try.prog.info? 28).map (·.size) = some 1 := by kernel_rfl
theorem take_kE {l : List Int} {cur : Array Value} {k : Nat} (h : cur.toList.take l.length = l.flatMap kE) (hk : k ≤ l.length) : cur.toList.take k = (l.take k).flatMap kE := by
  rw [map_kE] at h ⊢
  rw [List.map_take, ← h, List.take_take, Nat.min_eq_left hk]
theorem at_kE {l : List Int} {cur : Array Value} {q : Nat} {m : Int} (h : cur.toList.take l.length = l.flatMap kE) (hm : l[q]? = some m) : cur[q]? = some (.int .u64 m) := by
  have hq := (List.getElem?_eq_some_iff.1 hm).1
  have := kE_at hm
  rw [← h, List.getElem?_take, if_pos hq] at this
  simpa using this
theorem tw_all {p : Int → Bool} : ∀ {l : List Int}, (∀ m ∈ l, p m = true) → l.takeWhile p = l
  | [], _ => rfl
  | m :: t, h => by rw [List.takeWhile_cons, if_pos (h m List.mem_cons_self), tw_all fun x hx => h x (List.mem_cons_of_mem _ hx)]
theorem ix_mem {l : List Int} {x : Int} (h : ixI l x ≠ -1) : x ∈ l := Classical.byContradiction fun hx => h (by
  unfold ixI
  rw [if_neg]
  unfold ixR
  rw [tw_all fun m hm => by simpa using fun e : m = x => hx (e ▸ hm)]
  exact Nat.lt_irrefl _)
theorem lt_filter {l : List Int} {x : Int} {cs : Array Value} {k : Nat} (hlo : cs.toList.take k = ((l.take l.length).filter (nq x)).flatMap kE) (hk : k ≤ cs.size) (hi : ixI l x ≠ -1) : k = (l.filter (nq x)).length ∧ k < l.length := by
  have h1 := congrArg List.length hlo
  rw [List.take_length, List.length_take, map_kE, List.length_map, Array.length_toList] at h1
  have h2 := (List.length_filter_lt_length_iff_exists (p := nq x) (l := l)).2 ⟨x, ix_mem hi, by simp⟩
  omega
theorem over_pre {cs : Array Value} {k : Nat} {zs : List Value} (h : k ≤ cs.size) : (over cs k zs).toList.take k = cs.toList.take k := by
  unfold over
  rw [List.toList_toArray, List.take_append_of_le_length (by simp; omega), List.take_append_of_le_length (by simp; omega), List.take_take, Nat.min_self]
theorem own_end {w : World} {B g c k : Nat} {l : List Int} {x : Int} {cs : Array Value} {zs : List Value} (hk : k = (l.filter (nq x)).length) (hlo : cs.toList.take k = ((l.take l.length).filter (nq x)).flatMap kE) (hsz : cs.size = c) (hBg : B ≤ g) (hcm : c ≤ maxLen) (hkc : k + zs.length ≤ c) (hB : Blk w g 28 (over cs k zs)) : w.ownsRow B 28 1 (.slice (some ⟨g, 0, none⟩) k c) (l.filter (nq x)).length ((l.filter (nq x)).flatMap kE) := by
  rw [List.take_length] at hlo
  refine ⟨by rw [map_kE]; simp, .inr ⟨g, c, over cs k zs, by rw [hk], hBg, hB, by omega, hcm, ?_, ?_⟩⟩
  · unfold over; simp; omega
  · rw [← hk, Nat.mul_one, over_pre (by omega)]
    exact hlo
set_option maxHeartbeats 800000 in
set_option maxRecDepth 100000 in
/-- Names are taken out of a row. -/
theorem cDel {l : List Int} {x : Int} {gb B : Nat} {w : World} {u : Value} (hl : l.length ≤ 1000000) (hr : w.ownsRow B 28 1 u l.length (l.flatMap kE)) (hb : Blk w gb 28 #[.int .u64 x]) (hbv : u.ownBlock ≠ some gb) : Calls Try.prog 38 #[u, .func (.func 40) #[] #[ptrV gb]] w fun e w' => ∃ v, e = .returned v ∧ w'.ownsRow B 28 1 v (l.filter (nq x)).length ((l.filter (nq x)).flatMap kE) ∧ w.grownBy w' u.ownBlock ∧ (v.ownBlock = u.ownBlock) := by
  have z0 : OnlyB (fun i => u.ownBlock = some i) w w := OnlyB.refl _ _
  go_enter Try.func38, Try.ntmps38
  refine wp_seq ?_
  refine flowC mixed (st0 (U := False) (N := 42) (e := [(0, true, .val (u)), (1, true, .val (.func (.func 40) #[] #[ptrV gb]))]) (F := noF) rfl rfl (fok_no _ _) ⟨⟨rfl, rfl⟩, ⟨⟨rfl, rfl⟩, True.intro⟩⟩) (by kernel_rfl) (by kernel_rfl) (cc rfl (p_assign g0 (oc _)) cn) fun a1 w1 b1 s1 => ?_
  have z1 := z0.below b1
  have hr := own_below hr b1
  have hb := hb.below b1 hb.lt
  refine wp_seq ?_
  refine wp_region_lit ?_
  refine with_st (s1.keep (sc 0 rfl (sc 1 rfl sn))) fun s1 => ?_
  refine chainK 2 (cc rfl (p_move g0 (od rfl id))
      (cc rfl (p_move g0 (od rfl id)) cn)) (by kernel_rfl) s1 fun a2 w2 b2 s2 => ?_
  have z2 := z1.below b2
  have hr := own_below hr b2
  have hb := hb.below b2 hb.lt
  show wpList _ _ _ (_ :: _) _ _
  refine callO (R := fun v w' => v = .int .i64 (ixI l x) ∧ Below w2.heap.size w2 w') [.tmp 8, .tmp 9] s2 (by simp [Region.wanted]) (fun _ _ => by kernel_rfl) rfl (by decide) (show Calls Try.prog 57 #[a2.tmps.getD 8 undef, a2.tmps.getD 9 undef] w2 _ from by rw [show a2.tmps.getD 8 undef = u from s2.get 8 rfl, show a2.tmps.getD 9 undef = _ from s2.get 9 rfl]; exact cFirst hl hr hb) (vv 0 rfl (vv 1 rfl vn)) fun v3 a3 w3 hR3 s3 => ?_
  obtain ⟨rfl, b3⟩ := hR3
  have z3 := z2.below b3
  have hr := own_below hr b3
  have hb := hb.below b3 hb.lt
  refine chainT (t := []) (cc rfl (p_assign g0 (od rfl id)) cn) (by kernel_rfl) s3 fun a4 w4 b4 s4 => wpList_done ?_
  have z4 := z3.below b4
  have hr := own_below hr b4
  have hb := hb.below b4 hb.lt
  refine wp_seq ?_
  refine wp_seq ?_
  refine flowC mixed (s4.keep (sc 0 rfl (sc 1 rfl (sc 5 rfl sn)))) (by kernel_rfl) (by kernel_rfl) (cc rfl (p_move g0 (od rfl id))
      (cc rfl (p_bin g0 (od rfl id) (oc _) b_eql_3) cn)) fun a5 w5 b5 s5 => ?_
  have z5 := z4.below b5
  have hr := own_below hr b5
  have hb := hb.below b5 hb.lt
  refine s5.cond 12 rfl (fun h12 => ?_) (fun h12 => ?_)
  · -- true
    have hi : ixI l x = -1 := by simpa using h12
    refine wp_seq ?_
    refine flowC mixed (s5.keep (sc 0 rfl (sc 1 rfl (sc 5 rfl sn)))) (by kernel_rfl) (by kernel_rfl) (cc rfl (p_move g0 (od rfl id))
        (cc rfl (p_assign g0 (od rfl id)) cn)) fun a6 w6 b6 s6 => ?_
    have z6 := z5.below b6
    have hr := own_below hr b6
    have hb := hb.below b6 hb.lt
    exact wp_ret (ret_o (fn := Try.f38) (R := fun v w' => w'.ownsRow B 28 1 v (l.filter (nq x)).length ((l.filter (nq x)).flatMap kE) ∧ w.grownBy w' u.ownBlock ∧ (v.ownBlock = u.ownBlock)) (v := u) s6 4 rfl rfl ⟨by rw [ix_none hi]; exact hr, z6.to_grown, rfl⟩)
  · -- false
    have hi : ixI l x ≠ -1 := by simpa using h12
    obtain ⟨k0, hk0, hkl, hf0⟩ := ix_some hi
    rw [hk0] at s5
    rcases hr with ⟨hr1, ⟨rfl, h0⟩ | ⟨g, c, cur, rfl, hBg, hg, hnc, hcm, hcs, htake⟩⟩
    · omega
    rw [Nat.mul_one] at hcs htake
    have hg : Blk _ g 28 cur := hg
    have hgb : g ≠ gb := fun e => hbv (by rw [e]; rfl)
    refine wp_skip ?_
    refine wp_seq ?_
    refine wp_seq ?_
    refine flowC mixed (s5.keep (sc 0 rfl (sc 1 rfl (sc 5 rfl sn)))) (by kernel_rfl) (by kernel_rfl) (cc rfl (p_move g0 (od rfl id))
        (cc rfl (p_bin g0 (od rfl id) (oc _) (inc_3 (by omega)))
        (cc rfl (p_assign g0 (od rfl id)) cn))) fun a7 w7 b7 s7 => ?_
    have z7 := z5.below b7
    have hg := hg.below b7 hg.lt
    have hb := hb.below b7 hb.lt
    refine wp_block ?_
    refine wp_loopK (fun n a wr => ∃ j k cs, n = l.length - j ∧ DK w g gb c l x j k cs wr ∧ StE False 42 [(0, true, .val (.slice (some ⟨g, 0, none⟩) l.length c)), (1, true, .val (.func (.func 40) #[] #[ptrV gb])), (5, true, .int .i64 ((k : Nat) : Int)), (6, true, .int .i64 ((j : Nat) : Int))] noF a wr) (l.length - (k0 + 1)) ⟨k0 + 1, k0, cur, rfl, ⟨hg, hcs, ?_, ?_, by omega, hkl, hb, z7.to_grown⟩, s7.to _ ⟨rfl, rfl, rfl, rfl, True.intro⟩⟩ fun n a8 w8 hI => ?_
    · rw [hf0, take_kE htake (by omega)]
    · intro q m hq hm
      exact at_kE htake hm
    obtain ⟨j, k, cs, rfl, hD, s8⟩ := hI
    have hz := hD.z
    refine wp_seq ?_
    refine wp_seq ?_
    refine flowC mixed (s8.keep (sc 0 rfl (sc 1 rfl (sc 5 rfl (sc 6 rfl sn))))) (by kernel_rfl) (by kernel_rfl) (cc rfl (p_move g0 (od rfl id))
        (cc rfl (p_move g0 (od rfl id))
        (cc rfl (p_lenV ln_29 g0 (od rfl id))
        (cc rfl (p_bin g0 (od rfl id) (od rfl id) b_lss_3) cn)))) fun a9 w9 b9 s9 => ?_
    skip
    have hD := hD.below b9
    refine s9.cond 19 rfl (fun h19 => ?_) (fun h19 => ?_)
    · -- true
      have hjl : j < l.length := by have := of_decide_eq_true h19; (try dsimp only at this); omega
      obtain ⟨m, em⟩ : ∃ m, l[j]? = some m := ⟨_, List.getElem?_eq_getElem hjl⟩
      have hkj := hD.kj
      refine wp_skip ?_
      refine wp_seq ?_
      refine wp_block ?_
      refine wp_seq ?_
      refine wp_region_lit ?_
      refine with_st (s9.keep (sc 0 rfl (sc 1 rfl (sc 5 rfl (sc 6 rfl sn))))) fun s9 => ?_
      refine chainK 3 (cc rfl (p_move g0 (od rfl id))
          (cc rfl (p_move g0 (od rfl id))
          (cc rfl (p_idxV ix_29 hjl g0 (od rfl id) (od rfl id)) cn))) (by kernel_rfl) s9 fun a10 w10 b10 s10 => ?_
      skip
      have hD := hD.below b10
      show wpList _ _ _ (_ :: _) _ _
      refine ldc_on (k := 0 + j * 1) (v := .int .u64 m) s10 (by simp [Region.wanted]) rfl (by decide) (fun ev w b off v h1 h2 => ld_28 ev w b off v h1 h2) (s10.get 24 rfl) hD.bl (by rw [show 0 + j * 1 = j by omega]; exact hD.hi j m (Nat.le_refl _) em) fun a11 s11 => ?_
      refine chainK 1 (cc rfl (p_assign g0 (od rfl id)) cn) (by kernel_rfl) s11 fun a12 w12 b12 s12 => ?_
      skip
      have hD := hD.below b12
      refine wpList_done ?_
      refine wp_seq ?_
      refine wp_region_lit ?_
      refine with_st (s12.keep (sc 0 rfl (sc 1 rfl (sc 5 rfl (sc 6 rfl (sc 7 rfl sn)))))) fun s12 => ?_
      refine chainK 2 (cc rfl (p_move g0 (od rfl id))
          (cc rfl (p_move g0 (od rfl id)) cn)) (by kernel_rfl) s12 fun a13 w13 b13 s13 => ?_
      skip
      have hD := hD.below b13
      show wpList _ _ _ (_ :: _) _ _
      refine callW (R := fun v w' => v = .bool (m == x) ∧ Below w13.heap.size w13 w') (args := #[.int .u64 m, ptrV gb]) s13 (by simp [Region.wanted]) (by rw [cv_40 _ _ _ (show a13.eval (.tmp 26) = .func (.func 40) #[] #[ptrV gb] from s13.get 26 rfl), show a13.eval (.tmp 27) = .int .u64 m from s13.get 27 rfl]) rfl (by decide) (cTest hD.bx) (vv 0 rfl (vv 1 rfl (vv 5 rfl (vv 6 rfl (vv 7 rfl vn))))) fun v14 a14 w14 hR14 s14 => ?_
      obtain ⟨rfl, b14⟩ := hR14
      have hD := hD.below b14
      refine chainK 1 (cc rfl (p_not g0 (od rfl id)) cn) (by kernel_rfl) s14 fun a15 w15 b15 s15 => ?_
      skip
      have hD := hD.below b15
      refine wpList_done ?_
      refine s15.cond 29 rfl (fun h29 => ?_) (fun h29 => ?_)
      · -- true
        have hmx : (m == x) = false := by rw [Bool.not_eq_true'] at h29; exact h29
        refine wp_seq ?_
        refine wp_region_lit ?_
        refine with_st (s15.keep (sc 0 rfl (sc 1 rfl (sc 5 rfl (sc 6 rfl (sc 7 rfl sn)))))) fun s15 => ?_
        refine chainK 4 (cc rfl (p_move g0 (od rfl id))
            (cc rfl (p_move g0 (od rfl id))
            (cc rfl (p_move g0 (od rfl id))
            (cc rfl (p_idxV ix_29 (Nat.lt_of_le_of_lt hkj hjl) g0 (od rfl id) (od rfl id)) cn)))) (by kernel_rfl) s15 fun a16 w16 b16 s16 => ?_
        skip
        have hD := hD.below b16
        show wpList _ _ _ (_ :: _) _ _
        refine cells_on (vs := [.int .u64 m]) s16 rfl rfl rfl (s16.get 33 rfl) (s16.get 32 rfl) rfl hD.bl (by have := hD.sz; simp; omega) sz_28 (fun u hu => by rw [List.mem_singleton.1 hu]; rfl) (vv 0 rfl (vv 1 rfl (vv 5 rfl (vv 6 rfl vn)))) fun a17 w17 hB17 g17 s17 => ?_
        have hD := hD.put em hmx hnc hgb hB17 g17
        refine wpList_done ?_
        refine flowT (s17.keep (sc 0 rfl (sc 1 rfl (sc 5 rfl (sc 6 rfl sn))))) (by kernel_rfl) (cc rfl (p_move g0 (od rfl id))
            (cc rfl (p_bin g0 (od rfl id) (oc _) (inc_3 (by omega)))
            (cc rfl (p_assign g0 (od rfl id)) cn))) fun a18 w18 b18 s18 => ?_
        skip
        have hD := hD.below b18
        refine flowT (s18.keep (sc 0 rfl (sc 1 rfl (sc 5 rfl (sc 6 rfl (sc 34 rfl (sc 35 rfl sn))))))) (by kernel_rfl) (cc rfl (p_move g0 (od rfl id))
            (cc rfl (p_bin g0 (od rfl id) (oc _) (inc_3 (by omega)))
            (cc rfl (p_assign g0 (od rfl id)) cn))) fun a19 w19 b19 s19 => ?_
        skip
        have hD := hD.below b19
        exact ⟨_, by omega, j + 1, k + 1, _, rfl, hD, s19.to _ ⟨rfl, rfl, rfl, rfl, True.intro⟩⟩
      · -- false
        have hmx : (m == x) = true := by rw [Bool.not_eq_false'] at h29; exact h29
        have hD := hD.skip em hmx
        refine wp_skip ?_
        refine flowT (s15.keep (sc 0 rfl (sc 1 rfl (sc 5 rfl (sc 6 rfl (sc 7 rfl (sc 28 rfl (sc 29 rfl sn)))))))) (by kernel_rfl) (cc rfl (p_move g0 (od rfl id))
            (cc rfl (p_bin g0 (od rfl id) (oc _) (inc_3 (by omega)))
            (cc rfl (p_assign g0 (od rfl id)) cn))) fun a20 w20 b20 s20 => ?_
        skip
        have hD := hD.below b20
        exact ⟨_, by omega, j + 1, k, _, rfl, hD, s20.to _ ⟨rfl, rfl, rfl, rfl, True.intro⟩⟩
    · -- false
      obtain rfl : j = l.length := by have h1 := of_decide_eq_false h19; have h2 := hD.jn; (try dsimp only at h1); omega
      refine wp_exit ?_
      refine wp_seq ?_
      have hkf : k = _ ∧ k < l.length := lt_filter hD.lo (by have := hD.sz; have := hD.kj; omega) hi
      have hkn := hkf.2
      refine wp_region_lit ?_
      refine with_st (s9.keep (sc 0 rfl (sc 5 rfl sn))) fun s9 => ?_
      refine chainK 3 (cc rfl (p_move g0 (od rfl id))
          (cc rfl (p_move g0 (od rfl id))
          (cc rfl (p_run2 (od rfl id) (od rfl id) (sl_lo hkn hnc) (fun s h => by simp [Op.operands, h]) (fun s h => by simp [Op.operands, h]) g0) cn))) (by kernel_rfl) s9 fun a21 w21 b21 s21 => ?_
      skip
      have hD := hD.below b21
      show wpList _ _ _ (_ :: _) _ _
      refine clear_on s21 rfl rfl rfl (s21.get 38 rfl) hD.bl (by have := hD.sz; omega) (by omega) (vv 0 rfl (vv 5 rfl vn)) fun w22 hB g22 s22 => ?_
      have hz := only_trans hD.z g22
      refine wpList_done ?_
      refine wp_seq ?_
      refine flowC mixed (s22.keep (sc 0 rfl (sc 5 rfl sn))) (by kernel_rfl) (by kernel_rfl) (cc rfl (p_move g0 (od rfl id))
          (cc rfl (p_move g0 (od rfl id))
          (cc rfl (p_run2 (od rfl id) (od rfl id) (sl_hi (Nat.le_of_lt hkn) hnc) (fun s h => by simp [Op.operands, h]) (fun s h => by simp [Op.operands, h]) g0)
          (cc rfl (p_assign g0 (od rfl id)) cn)))) fun a23 w23 b23 s23 => ?_
      skip
      have hB := hB.below b23 hB.lt
      have hz := only_trans hz (only_of_below b23 _)
      exact wp_ret (ret_o (fn := Try.f38) (R := fun v w' => w'.ownsRow B 28 1 v (l.filter (nq x)).length ((l.filter (nq x)).flatMap kE) ∧ w.grownBy w' (Value.slice (some ⟨g, 0, none⟩) l.length c).ownBlock ∧ (v.ownBlock = (Value.slice (some ⟨g, 0, none⟩) l.length c).ownBlock)) (v := .slice (some ⟨g, 0, none⟩) k c) s23 4 rfl rfl ⟨own_end hkf.1 hD.lo hD.sz hBg hcm (by simp; omega) hB, hz, rfl⟩)

end Go.Proofs.Ytbeeiecbbmiojaa.Y
