/- Yun: (*Table).All: the objects by their names, rising -/
import Derived.Test.YtbeeiecbbmiojaaYsl
import Derived.Test.YtbeeiecbbmiojaaMRa
import Derived.Test.YtbeeiecbbmiojaaMTc
namespace Go.Proofs.Ytbeeiecbbmiojaa.Y
open Go.RowKit Go.ChangeShapes Go.WideShapes Go.ChangeAt Go.ChangeMaps Go.MapKept

open Go.Sort (ltInt)
theorem own_get {w : World} {B E k n : Nat} {v : Value} {xs : List Value} (h : w.ownsRow B E k v n xs) {g : Nat} (hg : v.ownBlock = some g) : B ≤ g ∧ ∃ cs, Blk w g E cs := by
  obtain ⟨_, ⟨rfl, _⟩ | ⟨g', cap, cur, rfl, h1, h2, _⟩⟩ := h
  · cases hg
  · injection hg with hg
    subst hg
    exact ⟨h1, cur, h2⟩
theorem IterAt.row {w : World} {r b : Nat} {k : IntKind} {l : List (Int × Value)} {todo : List Int} {last : Option (Int × Value)} {B E n m : Nat} {v : Value} {xs : List Value} (h : IterAt w r b k l todo last) (h2 : w.ownsRow B E n v m xs) : some b ≠ v.ownBlock ∧ some r ≠ v.ownBlock := by
  obtain ⟨es, clock, since, seen, c0, hb, _, _, hr, _⟩ := h
  constructor
  · intro e
    obtain ⟨_, cs, hB⟩ := own_get h2 e.symm
    unfold Blk at hB
    rw [hb] at hB
    cases hB
  · intro e
    obtain ⟨_, cs, hB⟩ := own_get h2 e.symm
    unfold Blk at hB
    rw [hr] at hB
    cases hB
theorem own_iter {w w' : World} {B E k n r : Nat} {v : Value} {xs : List Value} (h : w.ownsRow B E k v n xs) (hg : w.grownBy w' (some r)) (hn : some r ≠ v.ownBlock) : w'.ownsRow B E k v n xs := by
  obtain ⟨hl, ⟨rfl, h0⟩ | ⟨g', cap, cur, rfl, h1, h2, h3⟩⟩ := h
  · exact ⟨hl, .inl ⟨rfl, h0⟩⟩
  · exact ⟨hl, .inr ⟨g', cap, cur, rfl, h1, (hg.block g' (Array.getElem?_eq_some_iff.1 h2).1 (fun e => hn e.symm)).trans h2, h3⟩⟩
theorem flat_get : ∀ {l : List Int} {i : Nat}, i < l.length → (l.flatMap kE)[i]? = some (.int .u64 l.toArray[i]!)
  | [], i, h => by simp at h
  | a :: t, 0, _ => by simp [kE]
  | a :: t, i + 1, h => by
    have := flat_get (l := t) (i := i) (by simpa using h)
    simp [kE] at this ⊢
    exact this
/-- A row of names of one's own, as the sort takes it. -/
theorem own_rowD {w : World} {B : Nat} {v : Value} {l : List Int} (h : w.ownsRow B 28 1 v l.length (l.flatMap kE)) (hne : l ≠ []) : ∃ g cap, v = slD g l.length cap ∧ RowD w g cap l.length l.toArray ∧ B ≤ g := by
  obtain ⟨hl, ⟨_, h0⟩ | ⟨g, cap, cur, rfl, h1, h2, h3, _, h5, h6⟩⟩ := h
  · exact absurd (List.eq_nil_of_length_eq_zero h0) hne
  · refine ⟨g, cap, rfl, ⟨cur, h2, by omega, by simp, h3, fun i hi => ?_⟩, h1⟩
    rw [← flat_get hi, ← h6, List.getElem?_take, if_pos (by omega), Array.getElem?_toList]
/-- Rising lists of the same numbers are one. -/
theorem rise_eq : ∀ {l l' : List Int}, l.Pairwise (· < ·) → l'.Pairwise (· < ·) → (∀ x, x ∈ l ↔ x ∈ l') → l = l'
  | [], [], _, _, _ => rfl
  | [], a :: t, _, _, h => absurd ((h a).2 List.mem_cons_self) (by simp)
  | a :: t, [], _, _, h => absurd ((h a).1 List.mem_cons_self) (by simp)
  | a :: t, b :: u, h1, h2, h => by
    obtain ⟨ha, ht⟩ := List.pairwise_cons.1 h1
    obtain ⟨hb, hu⟩ := List.pairwise_cons.1 h2
    have e : a = b := by
      rcases List.mem_cons.1 ((h a).1 List.mem_cons_self) with e | e
      · exact e
      · rcases List.mem_cons.1 ((h b).2 List.mem_cons_self) with e' | e'
        · exact e'.symm
        · have := ha b e'; have := hb a e; omega
    subst e
    rw [rise_eq ht hu fun x => ?_]
    constructor
    · intro hx
      rcases List.mem_cons.1 ((h x).1 (List.mem_cons_of_mem _ hx)) with e | e
      · subst e; have := ha _ hx; omega
      · exact e
    · intro hx
      rcases List.mem_cons.1 ((h x).2 (List.mem_cons_of_mem _ hx)) with e | e
      · subst e; have := hb _ hx; omega
      · exact e
/-- What the sort hands back: the names, rising. -/
theorem Goal.rise {names ns : List Int} {D : Array Int} (h : Goal 0 names.length names.toArray D) (hp : ns.Perm names) (hr : ns.Pairwise (· < ·)) : D = ns.toArray := by
  obtain ⟨h1, h2, h3⟩ := h.sorted (by simp)
  have hnd : D.toList.Nodup := (h2.nodup_iff).2 ((hp.nodup_iff).1 (hr.imp fun {a b} (hab : a < b) e => by omega))
  have hD : D.toList.Pairwise (· < ·) := by
    rw [List.pairwise_iff_getElem]
    intro i j hi hj hij
    have hj' : j < names.length := by simpa [h1] using hj
    have := h3 i j hij hj'
    rw [getElem!_pos D i (by simpa using hi), getElem!_pos D j (by simpa using hj)] at this
    have hne : D.toList[i] ≠ D.toList[j] := fun e => by
      have := (List.getElem_inj hnd).1 e
      omega
    simp only [Array.getElem_toList] at hne ⊢
    omega
  have := rise_eq hD hr fun x => by rw [h2.mem_iff]; simpa using (hp.mem_iff (a := x)).symm
  rw [← this]
theorem RowD.keepE {n0 : Nat} {E : Nat → Prop} {w w' : World} {g cap n : Nat} {d : Array Int} (h : RowD w g cap n d) (hk : KeepE n0 E w w') (hn : ¬ E g) : RowD w' g cap n d := by
  obtain ⟨cs, h1, h2⟩ := h
  exact ⟨cs, hk.blk h1 hn, h2⟩
theorem MapAt.keepE {n0 : Nat} {E : Nat → Prop} {w w' : World} {b : Nat} {k : IntKind} {l : List (Int × Value)} (h : MapAt w b k l) (hk : KeepE n0 E w w') (hn : ¬ E b) (hb : b < n0) : MapAt w' b k l := by
  refine h.same ?_
  have hlt := h.lt
  rw [hk.kept b _ hn (Array.getElem?_eq_getElem hlt) (.inr hb), Array.getElem?_eq_getElem hlt]
theorem end_any {P : Program} {N : Nat} {e : Env} {F : Cell → Prop} {a : Act} {w : World} {U : Prop} {fn : Func} {R : Ending → World → Prop} (h : StE U N e F a w) (hr : fn.results = #[]) (hR : R (.returned (.tuple #[])) w) : bodyPost P fn R .normal a w := ⟨h.defers, .tuple #[], results_none hr _ _ _, hR⟩
theorem ret_any {P : Program} {N : Nat} {e : Env} {F : Cell → Prop} {a : Act} {w : World} {U : Prop} {fn : Func} {R : Ending → World → Prop} (h : StE U N e F a w) (hr : fn.results = #[]) (hR : R (.returned (.tuple #[])) w) : bodyPost P fn R .ret a w := ⟨h.defers, .tuple #[], results_none hr _ _ _, hR⟩
def lookG (t : Tab) (n : Int) : Nat := (t.tm.lookup n).getD 0
theorem look_some {t : Tab} {n : Int} (h : n ∈ t.tm.map (·.1)) : t.tm.lookup n = some (lookG t n) := by
  have h2 : ∀ l : List (Int × Nat), n ∈ l.map (·.1) → ∃ k, l.lookup n = some k := by
    intro l
    induction l with
    | nil => intro h; simp at h
    | cons p t ih =>
      intro h
      rw [show p = (p.1, p.2) from rfl, List.lookup_cons]
      cases hb : n == p.1 with
      | true => exact ⟨_, rfl⟩
      | false =>
        rcases List.mem_cons.1 h with e | e
        · subst e; simp at hb
        · exact ih e
  obtain ⟨k, hk⟩ := h2 _ h
  unfold lookG
  rw [hk]
  rfl
theorem vals_keys (t : Tab) : t.vals.map (·.1) = t.tm.map (·.1) := by
  unfold Tab.vals
  rw [List.map_map]
  rfl
section
variable {d : Nat} {t : TypeId} {p : String} {af : Array Edge} {g : Option (Nat × Bool)} {x x2 : Operand}
theorem b_lss_3' {a b : Nat} : Run2 Try.prog ⟨some d, .binOp .lss 3 x x2 3, t, p, af, g⟩ x x2 (.int .i64 (a : Int)) (.int .i64 (b : Int)) (.bool (decide (a < b))) := fun ev w h1 h2 => by
  rw [b_lss_3 ev w h1 h2, dec_cast]
end
def Below0 (W wr : World) : Prop := W.heap.size ≤ wr.heap.size
set_option maxRecDepth 100000 in
set_option maxHeartbeats 1600000 in
/-- (*Table).All goes over the objects by their names, rising. -/
theorem iAll {w : World} {B gT gM : Nat} {t : Tab} {kv : Nat → Value} {ns : List Int} {E : Nat → Prop} (hT : TabAt w B gT gM t kv) (hns : ns.Perm (t.tm.map (·.1))) (hrise : ns.Pairwise (· < ·)) (hne : t.tm ≠ []) (hlen0 : t.tm.length ≤ 100000) (hE : ∀ g, E g → g < w.heap.size ∧ g ≠ gT ∧ g ≠ gM) : Iter Try.prog 37 #[ptrV gT] #[] ptrV (ns.map (lookG t)) E w := by
  intro l J Jx W hW hJ hJx hY h0
  show Calls Try.prog 37 #[ptrV gT, .func (.yield l) #[] #[]] W _
  have z0 : OnlyB (fun _ => False) W W := OnlyB.refl _ _
  go_enter Try.func37, Try.ntmps37
  have hlt0 : w.heap.size ≤ W.heap.size := hW.size
  have hB1 : Blk W gT 104 #[.map (some gM)] := hT.tb.below hW hT.tb.lt
  have hM : MapAt W gM .u64 t.vals := hT.mp.below hW
  have hT1 := hT.tb.lt
  have hM1 := hT.mp.lt
  obtain ⟨i0, hi0, hz0, hz1, hz2⟩ := info_parts Try.info28
  refine wp_seq ?_
  refine flowC mixed (st0 (U := False) (N := 45) (e := [(0, true, .val (ptrV gT)), (1, true, .val (.func (.yield l) #[] #[]))]) (F := noF) rfl rfl (fok_no _ _) ⟨⟨rfl, rfl⟩, ⟨rfl, rfl⟩, True.intro⟩) (by kernel_rfl) (by kernel_rfl) (cc rfl (p_assign g0 (oc _)) cn) fun a1 w1 b1 s1 => ?_
  have z1 := z0.below b1
  have hB1 := hB1.below b1 hB1.lt
  have hM := hM.below b1
  refine wp_seq ?_
  refine wp_seq ?_
  have s1 := s1.more 0 (y := .tab gT gM 104 t.vals) (⟨(s1.get 0 rfl), hB1, hM, fun _ h => h, fun _ h => h⟩)
  refine wp_region_lit ?_
  refine with_st (s1.keep (sc 0 rfl (sc 1 rfl (sc 4 rfl sn)))) fun s1 => ?_
  refine chainK 4 (cc rfl (p_move g0 (od rfl id))
      (cc rfl (p_nilT g0 (od rfl id))
      (cc rfl (p_faT fa_104_0 g0 (od rfl id))
      (cc rfl (p_ldT ld_102 g0 (od rfl id)) cn)))) (by kernel_rfl) s1 fun a2 w2 b2 s2 => ?_
  have z2 := z1.below b2
  have hB1 := hB1.below b2 hB1.lt
  have hM := hM.below b2
  show wpList _ _ _ (_ :: _) _ _
  have s2 := s2.more 0 (y := .val (ptrV gT)) (s2.get 0 rfl).1
  refine range_on s2 rfl rfl (by decide) rfl Try.underlying102 (s2.get 12 rfl).1 hM (vv 0 rfl (vv 1 rfl (vv 4 rfl vn))) fun r a3 w3 hI hrW b3 s3 => ?_
  have hrW := Nat.le_trans z2.size hrW
  have hB1 := hB1.below b3 hB1.lt
  have hM := hM.below b3
  have z3 := z2.below b3
  refine wpList_done ?_
  refine wp_block ?_
  refine wp_loopK (fun k ac wr => ∃ todo names v last, k = todo.length ∧ IterAt wr r gM .u64 t.vals todo last ∧ (names ++ todo).Perm (t.tm.map (·.1)) ∧ wr.ownsRow W.heap.size 28 1 v names.length (names.flatMap kE) ∧ Blk wr gT 104 #[.map (some gM)] ∧ MapAt wr gM .u64 t.vals ∧ OnlyB (fun _ => False) W wr ∧ StE False 45 [(0, true, .val (ptrV gT)), (1, true, .val (.func (.yield l) #[] #[])), (4, true, .val v), (13, true, .val (.pointer (some ⟨r, 0, none⟩)))] noF ac wr) t.tm.length ⟨t.tm.map (·.1), [], .slice none 0 0, none, by simp, by rw [← vals_keys]; exact hI, List.Perm.refl _, ⟨rfl, .inl ⟨rfl, rfl⟩⟩, hB1, hM, z3, s3.to _ ⟨rfl, rfl, rfl, rfl, True.intro⟩⟩ fun k a4 w4 hJ1 => ?_
  obtain ⟨todo, names, v, last, rfl, hI, hP, hu, hB1, hM, z4, s4⟩ := hJ1
  have hlen : names.length + todo.length = t.tm.length := by have := hP.length_eq; simpa using this
  refine wp_seq ?_
  have hIr := (hI.row hu).2
  refine wp_region_lit ?_
  show wpList _ _ _ (_ :: _) _ _
  refine next_on s4 rfl rfl (by decide) rfl (s4.get 13 rfl) hI (vv 0 rfl (vv 1 rfl (vv 4 rfl (vv 13 rfl vn)))) (fun a5 htd s5 => ?_) (fun x vx todo2 a5 w5 hpt hxl hI gI s5 => ?_)
  · -- done
    subst htd
    refine chainK 1 (cc rfl (p_extT (i := 0) (v := .bool false) rfl g0 (od rfl id)) cn) (by kernel_rfl) s5 fun a6 w6 b6 s6 => ?_
    have z6 := z4.below b6
    have hB1 := hB1.below b6 hB1.lt
    have hM := hM.below b6
    have hI := hI.below b6
    have hu := own_below hu b6
    refine wpList_done ?_
    refine wp_seq ?_
    refine s6.cond 15 rfl (fun h => absurd h (by simp)) fun _ => ?_
    refine wp_exit ?_
    refine wp_seq ?_
    rw [List.append_nil] at hP
    have hnn : names ≠ [] := fun e => hne (by rw [e] at hP; exact List.map_eq_nil_iff.1 hP.symm.eq_nil)
    obtain ⟨g, cap, rfl, hD, hgW⟩ := own_rowD hu hnn
    have hJq := hJ [] W w6 h0 (z6.to_below (fun _ _ h => h) (Nat.le_refl _))
    have hB1 := hB1
    refine wp_region_lit ?_
    refine with_st (s6.keep (sc 0 rfl (sc 1 rfl (sc 4 rfl (sc 13 rfl sn))))) fun s6 => ?_
    refine chainK 1 (cc rfl (p_move g0 (od rfl id)) cn) (by kernel_rfl) s6 fun a7 w7 b7 s7 => ?_
    have z7 := z6.below b7
    have hB1 := hB1.below b7 hB1.lt
    have hM := hM.below b7
    have hD := hD.below b7
    show wpList _ _ _ (_ :: _) _ _
    refine callN (R := fun w' => ∃ D, Goal 0 names.length names.toArray D ∧ RowD w' g cap names.length D ∧ OnlyB (fun i => i = g) w7 w') [.tmp 22] [slD g names.length cap] s7 (by simp [Region.wanted]) (fun _ _ => by kernel_rfl) rfl (by decide) (ac (s7.get 22 rfl) an0) (cSort (by simp at hlen; omega) hD) (vv 0 rfl (vv 1 rfl (vv 4 rfl vn))) fun v8 a8 w8 hR8 s8 => ?_
    obtain ⟨D, hgo, hD, hzs⟩ := hR8
    have hDn := hgo.rise (hns.trans hP.symm) hrise
    subst hDn
    have hB1 := blk_only hB1 hzs (by omega)
    have hM := hM.only hzs (by omega)
    have z8 := z7.trans hzs (fun q h1 h2 => by omega)
    refine wpList_done ?_
    refine wp_seq ?_
    refine flowC mixed (s8.keep (sc 0 rfl (sc 1 rfl (sc 4 rfl sn)))) (by kernel_rfl) (by kernel_rfl) (cc rfl (p_move g0 (od rfl id))
        (cc rfl (p_lenD g0 (od rfl id))
        (cc rfl (p_move g0 (oc _)) cn))) fun a9 w9 b9 s9 => ?_
    have z9 := z8.below b9
    have hB1 := hB1.below b9 hB1.lt
    have hM := hM.below b9
    have hD := hD.below b9
    refine wp_block ?_
    have hnl : names.length = ns.length := (hns.trans hP.symm).length_eq.symm
    have hnsl : ns.length ≤ 100000 := by rw [← hnl]; simp at hlen; omega
    rw [hnl] at hD
    have st0 : StE False 45 [(0, true, .val (ptrV gT)), (1, true, .val (.func (.yield l) #[] #[])), (24, true, .val (slD g ns.length cap)), (25, true, .int .i64 (ns.length : Int)), (26, true, .int .i64 ((0 : Nat) : Int))] noF a9 w9 := by rw [← hnl]; exact s9.to _ ⟨rfl, rfl, rfl, rfl, rfl, True.intro⟩
    have hJ1 : J ((ns.take 0).map (lookG t)) w9 := hJ [] W w9 h0 (z9.to_below (fun _ _ h => h) (Nat.le_refl _))
    refine wp_loopK (fun k ac wr => ∃ q, k = ns.length - q ∧ q ≤ ns.length ∧ J ((ns.take q).map (lookG t)) wr ∧ RowD wr g cap ns.length ns.toArray ∧ Blk wr gT 104 #[.map (some gM)] ∧ MapAt wr gM .u64 t.vals ∧ Below0 W wr ∧ StE False 45 [(0, true, .val (ptrV gT)), (1, true, .val (.func (.yield l) #[] #[])), (24, true, .val (slD g ns.length cap)), (25, true, .int .i64 (ns.length : Int)), (26, true, .int .i64 (q : Int))] noF ac wr) ns.length ⟨0, rfl, by omega, hJ1, hD, hB1, hM, z9.size, st0⟩ fun k a10 w10 hJ2 => ?_
    obtain ⟨q, rfl, hq, hJq, hD, hB1, hM, hsz, s10⟩ := hJ2
    refine wp_seq ?_
    refine flowC mixed (s10.keep (sc 0 rfl (sc 1 rfl (sc 24 rfl (sc 25 rfl (sc 26 rfl sn)))))) (by kernel_rfl) (by kernel_rfl) (cc rfl (p_bin g0 (od rfl id) (od rfl id) b_lss_3') cn) fun a11 w11 b11 s11 => ?_
    skip
    have hJq := hJ _ _ _ hJq (b11.mono hsz)
    have hB1 := hB1.below b11 hB1.lt
    have hM := hM.below b11
    have hD := hD.below b11
    have hsz := Nat.le_trans hsz b11.size
    refine wp_seq ?_
    refine s11.cond 27 rfl (fun h27 => ?_) (fun h27 => ?_)
    · -- true
      have hql : q < ns.length := by simpa using h27
      obtain ⟨x, hx⟩ : ∃ x, ns.toArray[q]! = x := ⟨_, rfl⟩
      have hnq : ns[q]? = some x := by rw [← hx, List.getElem?_eq_getElem hql, getElem!_pos ns.toArray q (by simpa using hql)]; simp
      have hxm := look_some (t := t) (hns.mem_iff.1 (List.mem_of_getElem? hnq))
      have htk : (ns.take (q + 1)).map (lookG t) = (ns.take q).map (lookG t) ++ [lookG t x] := by rw [List.take_add_one, hnq]; simp
      have hpx : (ns.take q).map (lookG t) ++ [lookG t x] <+: ns.map (lookG t) := by rw [← htk]; exact (List.take_prefix _ _).map _
      refine wp_skip ?_
      refine wp_seq ?_
      refine wp_block ?_
      refine wp_seq ?_
      have s11 := s11.more 24 (y := .rowD g ns.length cap ns.toArray) (at_rowD hD (s11.get 24 rfl))
      refine flowC mixed (s11.keep (sc 0 rfl (sc 1 rfl (sc 24 rfl (sc 25 rfl (sc 26 rfl (sc 27 rfl sn))))))) (by kernel_rfl) (by kernel_rfl) (cc rfl (p_idxD (i := q) (fun h => by omega) g0 (od rfl id) (od rfl id))
          (cc rfl (p_ldD g0 (od rfl id))
          (cc rfl (p_assign g0 (od rfl id)) cn))) fun a12 w12 b12 s12 => ?_
      skip
      have hJq := hJ _ _ _ hJq (b12.mono hsz)
      have hB1 := hB1.below b12 hB1.lt
      have hM := hM.below b12
      have hD := hD.below b12
      have hsz := Nat.le_trans hsz b12.size
      have s12 := s12.more 24 (y := .val (slD g ns.length cap)) (s12.get 24 rfl).1
      have s12 := s12.more 7 (y := .int .u64 x) ((s12.get 7 rfl).trans (by rw [hx]))
      refine wp_seq ?_
      have s12 := s12.more 0 (y := .tab gT gM 104 t.vals) (⟨(s12.get 0 rfl), hB1, hM, fun _ h => h, fun _ h => h⟩)
      refine flowC mixed (s12.keep (sc 0 rfl (sc 1 rfl (sc 7 rfl (sc 24 rfl (sc 25 rfl (sc 26 rfl (sc 27 rfl (sc 28 rfl (sc 29 rfl sn)))))))))) (by kernel_rfl) (by kernel_rfl) (cc rfl (p_move g0 (od rfl id))
          (cc rfl (p_nilT g0 (od rfl id))
          (cc rfl (p_faT fa_104_0 g0 (od rfl id))
          (cc rfl (p_ldT ld_102 g0 (od rfl id))
          (cc rfl (p_move g0 (od rfl id))
          (cc rfl (p_lookO Try.underlying102 Try.underlying28 zero27 (tab_look _ _) g0 (od rfl id) (od rfl id))
          (cc rfl (p_assign g0 (od rfl id)) cn))))))) fun a13 w13 b13 s13 => ?_
      skip
      have hJq := hJ _ _ _ hJq (b13.mono hsz)
      have hB1 := hB1.below b13 hB1.lt
      have hM := hM.below b13
      have hD := hD.below b13
      have hsz := Nat.le_trans hsz b13.size
      have s13 := s13.more 0 (y := .val (ptrV gT)) (s13.get 0 rfl).1
      have s13 := s13.more 8 (y := .val (optP (some (lookG t x)))) ((s13.get 8 rfl).trans (by rw [hxm]))
      refine wp_seq ?_
      refine (wpIn_wide (n := 0)).1 ?_
      refine wpIn_region_lit ?_
      refine chainIn (r := none) 3 (cc rfl (p_move g0 (od rfl id))
          (cc rfl (p_bin g0 (od rfl id) (oc _) b_neP)
          (cc rfl (p_move g0 (od rfl id)) cn))) (by kernel_rfl) (by kernel_rfl) (s13.keep (sc 0 rfl (sc 1 rfl (sc 8 rfl (sc 24 rfl (sc 25 rfl (sc 26 rfl sn))))))) fun a14 w14 b14 s14 => ?_
      skip
      have hJq := hJ _ _ _ hJq (b14.mono hsz)
      have hB1 := hB1.below b14 hB1.lt
      have hM := hM.below b14
      have hD := hD.below b14
      have hsz := Nat.le_trans hsz b14.size
      have s14 := s14.more 38 (y := .bool true) (s14.get 38 rfl)
      refine chainIn (r := none) 2 (cc rfl (p_move (g1 rfl rfl) (od rfl (fun _ => rfl)))
          (cc rfl (p_move (g1 rfl rfl) (od rfl (fun _ => rfl))) cn)) (by kernel_rfl) (by kernel_rfl) s14 fun a15 w15 b15 s15 => ?_
      skip
      have hJq := hJ _ _ _ hJq (b15.mono hsz)
      have hB1 := hB1.below b15 hB1.lt
      have hM := hM.below b15
      have hD := hD.below b15
      have hsz := Nat.le_trans hsz b15.size
      show wpListIn _ _ _ _ _ (_ :: _) _ _
      refine yield_on (x := .tmp 39) (y := .tmp 40) s15 rfl (Eq.trans (s15.wanted (g1 rfl rfl) rfl) rfl) rfl (by decide) (s15.get 39 rfl) (s15.get 40 rfl) (hY _ (lookG t x) w15 hJq hpx) (vv 0 rfl (vv 1 rfl (vv 24 rfl (vv 25 rfl (vv 26 rfl (vv 38 rfl vn)))))) ?_
      rintro e w16 (⟨rfl, hJq, hk⟩ | ⟨rfl, hJx2, hszx⟩)
      · -- yield true
        refine ⟨_, rfl, fun a16 s16 => ?_⟩
        have hD := hD.keepE hk (fun h => absurd (hE g h).1 (by omega))
        have hB1 := hk.blk hB1 (fun h => (hE gT h).2.1 rfl)
        have hM := hM.keepE hk (fun h => (hE gM h).2.2 rfl) hM1
        have hsz := Nat.le_trans hsz hk.size
        rw [← htk] at hJq
        refine chainIn (r := none) 2 (cc rfl (p_not (g1 rfl rfl) (od rfl (fun _ => rfl)))
            (cc rfl (p_and g0 (od rfl id) (od rfl id)) cn)) (by kernel_rfl) (by kernel_rfl) s16 fun a17 w17 b17 s17 => ?_
        skip
        have hJq := hJ _ _ _ hJq (b17.mono hsz)
        have hB1 := hB1.below b17 hB1.lt
        have hM := hM.below b17
        have hD := hD.below b17
        have hsz := Nat.le_trans hsz b17.size
        show Exit.then _ _ _ _ _
        refine s17.cond 43 rfl (fun h => absurd h (by simp)) fun _ => ?_
        refine wp_skip ?_
        refine flowT (s17.keep (sc 0 rfl (sc 1 rfl (sc 24 rfl (sc 25 rfl (sc 26 rfl (sc 38 rfl (sc 41 rfl (sc 42 rfl (sc 43 rfl sn)))))))))) (by kernel_rfl) (cc rfl (p_binC (m' := ((q + 1 : Nat) : Int)) (fun _ => by rw [IntKind.wrap_i64]; omega) g0 (od rfl id) (oc _) b_add_3)
            (cc rfl (p_move g0 (od rfl id)) cn)) fun a18 w18 b18 s18 => ?_
        skip
        have hJq := hJ _ _ _ hJq (b18.mono hsz)
        have hB1 := hB1.below b18 hB1.lt
        have hM := hM.below b18
        have hD := hD.below b18
        have hsz := Nat.le_trans hsz b18.size
        exact ⟨ns.length - (q + 1), by omega, q + 1, rfl, by omega, hJq, hD, hB1, hM, hsz, s18.to _ ⟨rfl, rfl, rfl, rfl, rfl, True.intro⟩⟩
      · -- yield false
        refine ⟨_, rfl, fun a16 s16 => ?_⟩
        refine chainIn (r := none) 2 (cc rfl (p_not (g1 rfl rfl) (od rfl (fun _ => rfl)))
            (cc rfl (p_and g0 (od rfl id) (od rfl id)) cn)) (by kernel_rfl) (by kernel_rfl) s16 fun a19 w19 b19 s19 => ?_
        skip
        have hJx2 := hJx _ _ _ hJx2 (b19.mono hszx)
        show Exit.then _ _ _ _ _
        refine s19.cond 43 rfl (fun _ => ?_) (fun h => absurd h (by simp))
        exact wp_ret (ret_any (fn := Try.f37) (R := fun e W' => (∃ v, e = .returned v) ∧ (J (ns.map (lookG t)) W' ∨ ∃ pre, pre <+: ns.map (lookG t) ∧ Jx pre W')) s19 rfl ⟨⟨_, rfl⟩, .inr ⟨_, hpx, hJx2⟩⟩)
    · -- false
      obtain rfl : q = ns.length := by have h2 := of_decide_eq_false h27; omega
      refine wp_exit ?_
      rw [List.take_of_length_le (Nat.le_refl _)] at hJq
      exact end_any (fn := Try.f37) (R := fun e W' => (∃ v, e = .returned v) ∧ (J (ns.map (lookG t)) W' ∨ ∃ pre, pre <+: ns.map (lookG t) ∧ Jx pre W')) s11 rfl ⟨⟨_, rfl⟩, .inl hJq⟩
  · -- more
    have hz5 : OnlyB (fun _ => False) W w5 := z4.grown gI (fun x h1 e => absurd (Option.some.inj e) (by omega))
    have hB1 := hB1.grown gI (fun e => absurd (Option.some.inj e) (by omega))
    have hM := hM.grown gI (fun e => absurd (Option.some.inj e) (by omega))
    have hu := own_iter hu gI hIr
    refine chainK 1 (cc rfl (p_extT (i := 0) (v := .bool true) rfl g0 (od rfl id)) cn) (by kernel_rfl) s5 fun a20 w20 b20 s20 => ?_
    have z20 := hz5.below b20
    have hB1 := hB1.below b20 hB1.lt
    have hM := hM.below b20
    have hI := hI.below b20
    have hu := own_below hu b20
    refine wpList_done ?_
    refine wp_seq ?_
    refine s20.cond 15 rfl (fun _ => ?_) (fun h => absurd h (by simp))
    refine wp_skip ?_
    refine wp_block ?_
    refine wp_seq ?_
    refine wp_region_lit ?_
    refine with_st (s20.keep (sc 0 rfl (sc 1 rfl (sc 4 rfl (sc 13 rfl (sc 14 rfl (sc 15 rfl sn))))))) fun s20 => ?_
    show wpList _ _ _ (_ :: _) _ _
    refine entry_on s20 rfl rfl (by decide) rfl (s20.get 13 rfl) hI (vv 0 rfl (vv 1 rfl (vv 4 rfl (vv 13 rfl vn)))) fun a21 s21 => ?_
    refine chainK 2 (cc rfl (p_extT (i := 0) (v := .int .u64 x) rfl g0 (od rfl id))
        (cc rfl (p_assign g0 (od rfl id)) cn)) (by kernel_rfl) s21 fun a22 w22 b22 s22 => ?_
    have z22 := z20.below b22
    have hB1 := hB1.below b22 hB1.lt
    have hM := hM.below b22
    have hI := hI.below b22
    have hu := own_below hu b22
    refine wpList_done ?_
    refine wp_region_lit ?_
    refine with_st (s22.keep (sc 0 rfl (sc 1 rfl (sc 4 rfl (sc 5 rfl (sc 13 rfl (sc 16 rfl (sc 17 rfl sn)))))))) fun s22 => ?_
    refine chainK 2 (cc rfl (p_move g0 (od rfl id))
        (cc rfl (p_move g0 (od rfl id)) cn)) (by kernel_rfl) s22 fun a23 w23 b23 s23 => ?_
    have z23 := z22.below b23
    have hB1 := hB1.below b23 hB1.lt
    have hM := hM.below b23
    have hI := hI.below b23
    have hu := own_below hu b23
    show wpList _ _ _ (_ :: _) _ _
    refine lit_on (u := 28) (z := #[.int .u64 x]) s23 (by simp [Region.wanted]) rfl (by decide) (bs_29 _ _ (s23.get 19 rfl)) (vv 0 rfl (vv 1 rfl (vv 13 rfl (vv 18 rfl vn)))) fun gl a24 w24 hlt hgl b24 s24 => ?_
    have hB1 := hB1.below b24 hB1.lt
    have hM := hM.below b24
    have hI := hI.below b24
    have hu := own_below hu b24
    have z24 := z23.below b24
    show wpList _ _ _ (_ :: _) _ _
    have hnr := hI.row hu
    have hbx : ∀ q, v.ownBlock = some q → W.heap.size ≤ q := fun q hq => (own_get hu hq).1
    refine app_on (cs := kE x) s24 rfl rfl (by decide) rfl Try.underlying29 hi0 hz0 hz1 hz2 rfl (by decide) hu (s24.get 18 rfl) (s24.get 20 rfl) hlt rfl (fun u hu => by rw [List.mem_singleton.1 hu]; rfl) (by have := hpt.length_eq; simp at this; unfold maxLen; omega) (by have := hpt.length_eq; simp at this; omega) z24.size (vv 0 rfl (vv 1 rfl (vv 13 rfl vn))) fun v2 a25 w25 hu gA _ s25 => ?_
    have hu : World.ownsRow w25 W.heap.size 28 1 v2 (names ++ [x]).length ((names ++ [x]).flatMap kE) := by rw [List.length_append, List.flatMap_append]; exact hu
    have hI := hI.grown gA hnr.1 hnr.2
    have hB1 := hB1.grown gA (fun e => absurd (hbx gT e.symm) (by omega))
    have hM := hM.grown gA (fun e => absurd (hbx gM e) (by omega))
    have z25 := z24.grown gA (fun q h1 e => absurd (hbx q e) (by omega))
    refine chainK 1 (cc rfl (p_assign g0 (od rfl id)) cn) (by kernel_rfl) s25 fun a26 w26 b26 s26 => ?_
    have z26 := z25.below b26
    have hB1 := hB1.below b26 hB1.lt
    have hM := hM.below b26
    have hI := hI.below b26
    have hu := own_below hu b26
    refine wpList_done ?_
    exact ⟨todo2.length, by rw [hpt.length_eq, List.length_cons]; omega, todo2, names ++ [x], v2, _, rfl, hI, (by simpa using (List.Perm.append_left names hpt).symm.trans hP), hu, hB1, hM, z26, s26.to _ ⟨rfl, rfl, rfl, rfl, True.intro⟩⟩

end Go.Proofs.Ytbeeiecbbmiojaa.Y
