/- slices.Insert, slices.Delete, slices.Clone at rows of elements of 1 cells (type 28). -/
import Derived.Test.YtbeeiecbbmiojaaOwn
import Derived.Test.YtbeeiecbbmiojaaChecked
namespace Go.Proofs.Ytbeeiecbbmiojaa
open Go.RowKit Go.ChangeShapes Go.WideShapes

theorem Try.info28 : (Try.prog.info? 28).map (fun i => (i.zero, i.size, i.bytes)) = some (some (.int .u64 0), 1, 8) := by kernel_rfl
theorem Try.size28 : (Try.prog.info? 28).map (·.size) = some 1 := by kernel_rfl
theorem Try.sizeOf28 (w : World) : (Go.sizeOf 28).run Try.prog w = .ok 1 w := by kernel_rfl

set_option maxRecDepth 100000 in
set_option maxHeartbeats 1600000 in
theorem insert_endU (B vb n c : Nat) (vs : List Value) (hvl : vs.length = 1) (hv1 : ∀ u ∈ vs, u.oneCell' = true) (A : Option Addr) (xs : List Value) (w : World) (hown : w.ownsRow B 28 1 (.slice A n c) n xs) (hv : Blk w vb 28 vs.toArray) (hn : n ≤ 1000000) (hB : B ≤ w.heap.size) :
    Calls Try.prog 48 #[.slice A n c, .int .i64 n, .slice (some ⟨vb, 0, none⟩) 1 1] w fun e w' => ∃ v, e = .returned v ∧ w'.ownsRow B 28 1 v (n + 1) (xs ++ vs) ∧ w.grownBy w' (Value.slice A n c).ownBlock ∧
      (v.ownBlock = (Value.slice A n c).ownBlock ∨ v.ownBlock = some w.heap.size) := by
  obtain ⟨i0, hi0, hz0, hz1, hz2⟩ := info_parts Try.info28
  have hsrc : ∀ j u, vs[j]? = some u → w.cell? ((⟨vb, 0, none⟩ : Addr).add j) = some u := fun j u hu => by
    rw [add_none, hv.cell, ← hu]; simp
  have HS := Lib.hid hsrc
  have HO := Lib.hid hv1
  have hnc := own_cap hown
  clear hsrc hv
  by_cases hcn : n = c
  · subst hcn
    go_enter Try.func48, Try.ntmps48
    go_wp2_with (at_builtin; refine wpList_append_own_at _ rfl _ _ 29 rfl B 28 i0 _ 1 8 Try.underlying29 hi0 hz0 hz1 hz2 rfl (by decide) (.slice A n n) _ _ rfl hown ⟨vb, 0, none⟩ 1 1 vs rfl (by rw [hvl]) HS.out HO.out (by unfold maxLen; omega) (by omega) hB ?_; intro v2 w2 o2 g2 _ a2)
    go_ret
    exact ⟨v2, rfl, o2, g2, a2⟩
  · have hcn' : ¬ c = n := fun e => hcn e.symm
    go_enter Try.func48, Try.ntmps48
    go_wp2_with (at_builtin; refine wpList_append_own_at _ rfl _ _ 29 rfl B 28 i0 _ 1 8 Try.underlying29 hi0 hz0 hz1 hz2 rfl (by decide) (.slice A n c) _ _ rfl hown ⟨vb, 0, none⟩ 1 1 vs rfl (by rw [hvl]) HS.out HO.out (by unfold maxLen; omega) (by omega) hB ?_; intro v2 w2 o2 g2 _ a2)
    go_ret
    exact ⟨v2, rfl, o2, g2, a2⟩

set_option maxRecDepth 100000 in
set_option maxHeartbeats 1600000 in
theorem insert_roomU (B vb n c i g : Nat) (vs : List Value) (hvl : vs.length = 1) (hv1 : ∀ u ∈ vs, u.oneCell' = true) (xs : List Value) (cur : Array Value) (w : World) (hg : Blk w g 28 cur) (hsz : cur.size = c * 1) (hxs : cur.toList.take (n * 1) = xs) (h1 : ∀ u ∈ xs, u.oneCell' = true) (hc : c ≤ maxLen) (hBg : B ≤ g)
    (hv : Blk w vb 28 vs.toArray) (hne : vb ≠ g) (hi : i < n) (hroom : n + 1 ≤ c) :
    Calls Try.prog 48 #[.slice (some ⟨g, 0, none⟩) n c, .int .i64 i, .slice (some ⟨vb, 0, none⟩) 1 1] w fun e w' => ∃ v, e = .returned v ∧ w'.ownsRow B 28 1 v (n + 1) (xs.take i ++ vs ++ xs.drop i) ∧ w.grownBy w' (some g) ∧
      (v.ownBlock = some g ∨ v.ownBlock = some w.heap.size) := by
  have hxl : xs.length = n * 1 := by rw [← hxs, List.length_take, Array.length_toList]; omega
  have hov : ∀ lb cb, (callFunc 62 #[.slice (some ⟨vb, 0, none⟩) 1 1, .slice (some ⟨g, (i + 1) * 1, none⟩) lb cb]).run Try.prog w = .ok (.value (.bool false)) w := fun lb cb => by
    rw [run_callFunc_extern Try.func62 (by kernel_rfl) (by kernel_rfl) (by kernel_rfl) (e := Extern.SlicesOverlaps.overlaps #[29, 29] #[4]) (by kernel_rfl),
      Lib.run_overlaps_apart w 29 4 28 Try.underlying29 1 Try.sizeOf28 ⟨vb, 0, none⟩ ⟨g, (i + 1) * 1, none⟩ 1 1 lb cb hne 28 28 1 cur.size (by simp [World.shape?, show w.heap[vb]? = _ from hv, hvl]) (by simp [World.shape?, show w.heap[g]? = _ from hg]) (by omega) (hv.frozen 0) (hv.frozen 1)]
    rfl
  have hdl : (xs.drop (i * 1)).length = (n - i) * 1 := by rw [List.length_drop, hxl]; omega
  have hcp1 : ∀ ty dc sc, (Builtin.copy_ #[29, 29] ty #[.slice (some ⟨g, (i + 1) * 1, none⟩) (n - i) dc, .slice (some ⟨g, i * 1, none⟩) (n + 1 - i) sc]).run Try.prog w.drew = .ok (goInt ((n - i : Nat) : Int)) (w.drew.setCells g ((i + 1) * 1) (xs.drop (i * 1))) := fun ty dc sc => by
    have := run_copy_n (P := Try.prog) w.drew 29 29 ty 28 1 g ((i + 1) * 1) (n - i) dc ⟨g, i * 1, none⟩ (n + 1 - i) sc cur (xs.drop (i * 1)) Try.underlying29 Try.size28 hg.drew (by rw [hdl]; simp only [Nat.min_def]; split <;> omega)
      (blk_src hg.drew _ _ (fun j v hj => by
        rw [List.getElem?_drop, ← hxs, List.getElem?_take] at hj
        split at hj
        · simpa using hj
        · cases hj)) (by rw [hdl, hsz]; omega) (fun v hv => h1 v (List.mem_of_mem_drop hv))
    rwa [show Nat.min (n + 1 - i) (n - i) = n - i by simp only [Nat.min_def]; split <;> omega] at this
  have hg2 := Blk.setCells (xs.drop (i * 1)) ((i + 1) * 1) hg.drew (by rw [hdl, hsz]; omega)
  have hv2 : Blk (w.drew.setCells g ((i + 1) * 1) (xs.drop (i * 1))) vb 28 vs.toArray := by
    have G := only_setCells (xs.drop (i * 1)) ((i + 1) * 1) (only_refl w.drew (some g))
    exact hv.drew.grown G (by simpa using hne)
  have hsz2 : (over cur ((i + 1) * 1) (xs.drop (i * 1))).size = c * 1 := by rw [over_size _ _ _ (by rw [hdl, hsz]; omega), hsz]
  have hcp2 : ∀ ty dc, (Builtin.copy_ #[29, 29] ty #[.slice (some ⟨g, i * 1, none⟩) (n + 1 - i) dc, .slice (some ⟨vb, 0, none⟩) 1 1]).run Try.prog (w.drew.setCells g ((i + 1) * 1) (xs.drop (i * 1))) = .ok (goInt 1) ((w.drew.setCells g ((i + 1) * 1) (xs.drop (i * 1))).setCells g (i * 1) vs) := fun ty dc => by
    have := run_copy_n (P := Try.prog) (w.drew.setCells g ((i + 1) * 1) (xs.drop (i * 1))) 29 29 ty 28 1 g (i * 1) (n + 1 - i) dc ⟨vb, 0, none⟩ 1 1 _ vs Try.underlying29 Try.size28 hg2 (by rw [hvl]; simp only [Nat.min_def]; split <;> omega)
      (fun j u hu => by rw [add_none, hv2.cell, ← hu]; simp) (by rw [hsz2]; simp [hvl]; omega) hv1
    rwa [show Nat.min 1 (n + 1 - i) = 1 by simp only [Nat.min_def]; split <;> omega] at this
  have hg3 := Blk.setCells vs (i * 1) hg2 (by rw [hsz2]; simp [hvl]; omega)
  have HOWN0 := (own_of_blk (base := B) (n := n + 1) (c := c) (xs := xs.take (i * 1) ++ vs ++ xs.drop (i * 1)) hg3 hBg hroom hc (by rw [over_size _ _ _ (by rw [hsz2]; simp [hvl]; omega), hsz2]) (by
    rw [over_list, over_list, show (i + 1) * 1 = i * 1 + 1 by omega, show (n + 1) * 1 = n * 1 + 1 by omega]
    exact ins_over cur.toList xs vs (i * 1) 1 (n * 1) hxs (by rw [Array.length_toList]; omega) (by omega) hvl))
  have HG0 := (only_setCells vs (i * 1) (only_setCells (xs.drop (i * 1)) ((i + 1) * 1) (only_drew (only_refl w (some g)))))
  simp only [Nat.mul_one] at hcp1 hcp2 HOWN0 HG0 hov
  have HOWN := Lib.hid HOWN0
  have HG := Lib.hid HG0
  have HC1 := Lib.hid hcp1
  have HC2 := Lib.hid hcp2
  clear HOWN0 HG0 hxl hdl hcp1 hcp2 hg2 hv2 hsz2 hg3 hg hv hsz hxs h1
  unfold maxLen at hc
  go_enter Try.func48, Try.ntmps48
  go_wp2_with (simp only [hov])
  clear hov
  have hw1 : IntKind.i64.wrap ((i : Int) + 1) = (i : Int) + 1 := IntWalk.i64_in _ (by omega)
  have hb1 : (0 : Int) ≤ (i : Int) + 1 ∧ (i : Int) + 1 ≤ (n : Int) + 1 := by omega
  have hb2 : ((i : Int) + 1).toNat = i + 1 := by omega
  have hb3 : ¬ c = i + 1 := by omega
  have hb4 : ¬ c = i := by omega
  have hb5 : (0 : Int) ≤ (i : Int) ∧ (i : Int) ≤ (n : Int) + 1 := by omega
  have hb6 : n + 1 - (i + 1) = n - i := by omega
  go_region_law (refine step_copy_by rfl (.tmp 73) (.tmp 76) 29 29 rfl (.slice (some ⟨g, i + 1, none⟩) (n - i) (c - (i + 1))) (.slice (some ⟨g, i, none⟩) (n + 1 - i) (c - i)) (by simp [Act.eval, Act.put]) (by simp [Act.eval, Act.put]) (HC1.out 3 (c - (i + 1)) (c - i)) ?_)
  go_wp2_with (with_reducible refine wpList_copy_by _ rfl (.tmp 80) (.tmp 81) 29 29 rfl (.slice (some ⟨g, i, none⟩) (n + 1 - i) (c - i)) (.slice (some ⟨vb, 0, none⟩) 1 1) rfl rfl (HC2.out 3 (c - i)) ?_)
  go_ret
  exact ⟨_, rfl, HOWN.out, HG.out, .inl rfl⟩


set_option maxRecDepth 100000 in
set_option maxHeartbeats 1600000 in
theorem insert_growU (B vb n i g : Nat) (vs : List Value) (hvl : vs.length = 1) (hv1 : ∀ u ∈ vs, u.oneCell' = true) (xs : List Value) (cur : Array Value) (w : World) (hg : Blk w g 28 cur) (hsz : cur.size = n * 1) (hxs : cur.toList.take (n * 1) = xs) (h1 : ∀ u ∈ xs, u.oneCell' = true) (hn : n ≤ 1000000)
    (hv : Blk w vb 28 vs.toArray) (hi : i < n) (hBw : B ≤ w.heap.size) :
    Calls Try.prog 48 #[.slice (some ⟨g, 0, none⟩) n n, .int .i64 i, .slice (some ⟨vb, 0, none⟩) 1 1] w fun e w' => ∃ v, e = .returned v ∧ w'.ownsRow B 28 1 v (n + 1) (xs.take i ++ vs ++ xs.drop i) ∧ w.grownBy w' (some g) ∧
      (v.ownBlock = some g ∨ v.ownBlock = some w.heap.size) := by
  obtain ⟨i0, hi0, hz0, hz1, hz2⟩ := info_parts Try.info28
  have hxl : xs.length = n * 1 := by rw [← hxs, List.length_take, Array.length_toList]; omega
  have hdl : (xs.drop (i * 1)).length = (n - i) * 1 := by rw [List.length_drop, hxl]; omega
  have hcur : ∀ j v, xs[j]? = some v → cur[j]? = some v := fun j v hj => by
    rw [← hxs, List.getElem?_take] at hj
    split at hj
    · simpa using hj
    · cases hj
  have hold : (Builtin.firstCells i0.size i (.slice (some ⟨g, 0, none⟩) i n)).run Try.prog w.drew = .ok (xs.take (i * 1)).toArray w.drew := by
    rw [hz1]
    refine run_firstCells_some w.drew 1 i ⟨g, 0, none⟩ i n (xs.take (i * 1)) (by rw [List.length_take, hxl]; omega) (fun j v hj => ?_)
    rw [add_none, Nat.zero_add, hg.drew.cell]
    rw [List.getElem?_take] at hj
    split at hj
    · exact hcur j v hj
    · cases hj
  have hik : i + (n + 1 - i) = n + 1 := by omega
  have hrz : ∀ ty, (Builtin.append_ #[29, 3] ty #[.slice (some ⟨g, 0, none⟩) i n, .int .i64 ((n + 1 - i : Nat) : Int)]).run Try.prog w =
      .ok (.slice (some ⟨w.heap.size, 0, none⟩) (n + 1) (grownCap w (n + 1) n 28)) (w.drew.alloc (.cells ((xs.take (i * 1)).toArray ++ Builtin.zeroCells #[.int .u64 0] (n + 1 - i) ++ Builtin.zeroCells #[.int .u64 0] (grownCap w (n + 1) n 28 - (n + 1))) 28)) := fun ty => by
    have h := Lib.run_append_grow_zeros w 29 3 ty 28 i0 (.int .u64 0) .i64 .i64 Try.underlying29 Try.underlying3 hi0 hz0 (some ⟨g, 0, none⟩) i n (xs.take (i * 1)) hold (n + 1 - i) (by omega) (by omega) (by omega) (by omega) (by rw [hz2]; omega) (by rw [hz2, hik]; exact growslice_fits (by omega) (by omega))
    rw [hik] at h
    exact h
  have hGn : n + 1 ≤ grownCap w (n + 1) n 28 := grownCap_ge w _ _ _
  have hG63 : grownCap w (n + 1) n 28 ≤ maxLen := grownCap_le_maxLen w (n + 1) n 28 (by unfold maxLen; omega)
  generalize grownCap w (n + 1) n 28 = G at *
  obtain ⟨ROW, hROW⟩ : ∃ ROW : Array Value, (xs.take (i * 1)).toArray ++ Builtin.zeroCells #[.int .u64 0] (n + 1 - i) ++ Builtin.zeroCells #[.int .u64 0] (G - (n + 1)) = ROW := ⟨_, rfl⟩
  rw [hROW] at hrz
  have hRs : ROW.size = G * 1 := by
    rw [← hROW]
    simp [zeroCells_size, hxl]
    omega
  have hRt : ROW.toList.take (i * 1) = xs.take (i * 1) := by
    rw [← hROW]
    simp only [Array.toList_append, List.append_assoc]
    rw [List.take_left' (by simp [hxl]; omega)]
  have hgw := hg.lt
  have hvw := hv.lt
  have hR0 : Blk (w.drew.alloc (.cells ROW 28)) w.heap.size 28 ROW := Blk.new w.drew 28 ROW
  have hg0 : Blk (w.drew.alloc (.cells ROW 28)) g 28 cur := hg.drew.alloc _
  have hv0 : Blk (w.drew.alloc (.cells ROW 28)) vb 28 vs.toArray := hv.drew.alloc _
  have hG0 : w.grownBy (w.drew.alloc (.cells ROW 28)) (some w.heap.size) := only_alloc (only_drew (only_refl w _)) _
  obtain ⟨w1, hw1⟩ : ∃ w1, w.drew.alloc (.cells ROW 28) = w1 := ⟨_, rfl⟩
  rw [hw1] at hrz hR0 hg0 hv0 hG0
  have hcp1 : ∀ ty dc, (Builtin.copy_ #[29, 29] ty #[.slice (some ⟨w.heap.size, i * 1, none⟩) (n + 1 - i) dc, .slice (some ⟨vb, 0, none⟩) 1 1]).run Try.prog w1 = .ok (goInt 1) (w1.setCells w.heap.size (i * 1) vs) := fun ty dc => by
    have := run_copy_n (P := Try.prog) w1 29 29 ty 28 1 w.heap.size (i * 1) (n + 1 - i) dc ⟨vb, 0, none⟩ 1 1 _ vs Try.underlying29 Try.size28 hR0 (by rw [hvl]; simp only [Nat.min_def]; split <;> omega)
      (fun j u hu => by rw [add_none, hv0.cell, ← hu]; simp) (by rw [hRs]; simp [hvl]; omega) hv1
    rwa [show Nat.min 1 (n + 1 - i) = 1 by simp only [Nat.min_def]; split <;> omega] at this
  have hR1 := Blk.setCells vs (i * 1) hR0 (by rw [hRs]; simp [hvl]; omega)
  have hG1 := only_setCells vs (i * 1) hG0
  have hg1 : Blk (w1.setCells w.heap.size (i * 1) vs) g 28 cur := hg.grown hG1 (by simp; omega)
  have hsz1 : (over ROW (i * 1) vs).size = G * 1 := by rw [over_size _ _ _ (by rw [hRs]; simp [hvl]; omega), hRs]
  have hcp2 : ∀ ty dc sc, (Builtin.copy_ #[29, 29] ty #[.slice (some ⟨w.heap.size, (i + 1) * 1, none⟩) (n - i) dc, .slice (some ⟨g, i * 1, none⟩) (n - i) sc]).run Try.prog (w1.setCells w.heap.size (i * 1) vs).drew =
      .ok (goInt ((n - i : Nat) : Int)) ((w1.setCells w.heap.size (i * 1) vs).drew.setCells w.heap.size ((i + 1) * 1) (xs.drop (i * 1))) := fun ty dc sc => by
    have := run_copy_n (P := Try.prog) (w1.setCells w.heap.size (i * 1) vs).drew 29 29 ty 28 1 w.heap.size ((i + 1) * 1) (n - i) dc ⟨g, i * 1, none⟩ (n - i) sc _ (xs.drop (i * 1)) Try.underlying29 Try.size28 hR1.drew (by rw [hdl]; simp)
      (blk_src hg1.drew _ _ (fun j v hj => by rw [List.getElem?_drop] at hj; exact hcur _ _ hj)) (by rw [hdl, hsz1]; omega) (fun v hv => h1 v (List.mem_of_mem_drop hv))
    rwa [show Nat.min (n - i) (n - i) = n - i by simp] at this
  have hR2 := Blk.setCells (xs.drop (i * 1)) ((i + 1) * 1) hR1.drew (by rw [hdl, hsz1]; omega)
  have HOWN0 := (own_of_blk (base := B) (n := n + 1) (c := G) (xs := xs.take (i * 1) ++ vs ++ xs.drop (i * 1)) hR2 hBw hGn hG63 (by rw [over_size _ _ _ (by rw [hdl, hsz1]; omega), hsz1]) (by
    rw [over_list, over_list, show (i + 1) * 1 = i * 1 + 1 by omega, show (n + 1) * 1 = n * 1 + 1 by omega]
    exact ins_over2 ROW.toList xs vs (i * 1) 1 (n * 1) hxl hRt (by rw [Array.length_toList]; omega) (by omega) hvl))
  have HG0 := (grown_fresh (only_setCells (xs.drop (i * 1)) ((i + 1) * 1) (only_drew hG1)) (Nat.le_refl _) (row := some g))
  simp only [Nat.mul_one] at hcp1 hcp2 HOWN0 HG0 hrz
  have HOWN := Lib.hid HOWN0
  have HG := Lib.hid HG0
  have HC1 := Lib.hid hcp1
  have HC2 := Lib.hid hcp2
  have HRZ := Lib.hid hrz
  have hkk : (n : Int) + 1 - i = ((n + 1 - i : Nat) : Int) := by omega
  have HKK := Lib.hid hkk
  clear HOWN0 HG0 hxl hdl hcp1 hcp2 hcur hold hrz hROW hRs hRt hR0 hg0 hv0 hG0 hw1 hR1 hG1 hg1 hsz1 hR2 hg hv hsz hxs h1 hz0 hz1 hz2 hi0 hik hkk
  unfold maxLen at hG63
  have hlt3 : (n : Int) < (n : Int) + 1 := by omega
  go_enter Try.func48, Try.ntmps48
  go_wp2_with (first
    | (at_builtin; rw [HKK.out]; refine wpList_builtin_by _ rfl (.tmp 34) (.tmp 39) 29 3 rfl _ _ rfl rfl (HRZ.out _) ?_)
    | (with_reducible refine wpList_copy_by _ rfl (.tmp 43) (.tmp 44) 29 29 rfl (.slice (some ⟨w.heap.size, i, none⟩) (n + 1 - i) (G - i)) (.slice (some ⟨vb, 0, none⟩) 1 1) rfl rfl (HC1.out 3 (G - i)) ?_))
  have hw2 : IntKind.i64.wrap ((i : Int) + 1) = (i : Int) + 1 := IntWalk.i64_in _ (by omega)
  have hb1 : (0 : Int) ≤ (i : Int) + 1 ∧ (i : Int) + 1 ≤ (n : Int) + 1 := by omega
  have hb2 : ((i : Int) + 1).toNat = i + 1 := by omega
  have hb3 : ¬ G = i + 1 := by omega
  have hb4 : ¬ n = i := by omega
  have hb5 : (0 : Int) ≤ (i : Int) ∧ (i : Int) ≤ (n : Int) := by omega
  have hb6 : n + 1 - (i + 1) = n - i := by omega
  clear hgw hvw
  go_region_law (refine step_copy_by rfl (.tmp 50) (.tmp 53) 29 29 rfl (.slice (some ⟨w.heap.size, i + 1, none⟩) (n - i) (G - (i + 1))) (.slice (some ⟨g, i, none⟩) (n - i) (n - i)) (by simp [Act.eval, Act.put]) (by simp [Act.eval, Act.put]) (HC2.out 3 (G - (i + 1)) (n - i)) ?_)
  go_wp2
  go_ret
  exact ⟨_, rfl, HOWN.out, HG.out, .inr rfl⟩

/-- One pair put in at a place. -/
theorem insert_anyU (B vb n c i : Nat) (vs : List Value) (hvl : vs.length = 1) (hv1 : ∀ u ∈ vs, u.oneCell' = true) (A : Option Addr) (xs : List Value) (w : World) (hown : w.ownsRow B 28 1 (.slice A n c) n xs) (h1 : ∀ u ∈ xs, u.oneCell' = true) (hv : Blk w vb 28 vs.toArray) (hne : some vb ≠ (Value.slice A n c).ownBlock)
    (hi : i ≤ n) (hn : n ≤ 1000000) (hB : B ≤ w.heap.size) :
    Calls Try.prog 48 #[.slice A n c, .int .i64 i, .slice (some ⟨vb, 0, none⟩) 1 1] w fun e w' => ∃ v, e = .returned v ∧ w'.ownsRow B 28 1 v (n + 1) (xs.take i ++ vs ++ xs.drop i) ∧ w.grownBy w' (Value.slice A n c).ownBlock ∧
      (v.ownBlock = (Value.slice A n c).ownBlock ∨ v.ownBlock = some w.heap.size) := by
  by_cases he : i = n
  · subst he
    have hl : xs.length = i * 1 := hown.1
    rw [List.take_of_length_le (by omega), List.drop_eq_nil_of_le (by omega), List.append_nil]
    exact insert_endU B vb i c vs hvl hv1 A xs w hown hv hn hB
  · obtain ⟨g, cur, rfl, hb, hg, h2, h3, h4, h5⟩ := own_blk hown (by omega)
    have hob : (Value.slice (some ⟨g, 0, none⟩) n c).ownBlock = some g := rfl
    rw [hob] at hne ⊢
    by_cases hr : n + 1 ≤ c
    · exact insert_roomU B vb n c i g vs hvl hv1 xs cur w hg h4 h5 h1 h3 hb hv (by simpa using hne) (by omega) hr
    · obtain rfl : n = c := by omega
      exact insert_growU B vb n i g vs hvl hv1 xs cur w hg h4 h5 h1 hn hv (by omega) hB


set_option maxHeartbeats 400000 in
theorem clone_anyU (A : Option Addr) (c n : Nat) (xs : List Value) (B : Nat) (w : World) (hr : Reads w B 1 A n xs) (hB : B ≤ w.heap.size) (hm : n ≤ 1000000) (h1 : ∀ u ∈ xs, u.oneCell' = true) :
    Calls Try.prog 39 #[.slice A n c] w fun e w' => ∃ v, e = .returned v ∧ w'.ownsRow w.heap.size 28 1 v n xs ∧ Below w.heap.size w w' := by
  obtain ⟨i0, hi, hz0, hz1, hz2⟩ := info_parts Try.info28
  have qT : ∀ (w : World) (a : Option Addr) (n c n' c' : Nat), (binOp .eql 29 (.slice a n c) (.slice none n' c')).run Try.prog w = .ok (.bool a.isNone) w := fun w a n c n' c' => Lib.run_eql_slice_nil w _ _ a n c n' c' Try.underlying29
  cases A with
  | none =>
    have hn : n = 0 := by
      rcases Nat.eq_zero_or_pos n with h0 | h0
      · exact h0
      · obtain ⟨_, e, _⟩ := hr.2 h0
        cases e
    subst hn
    have hl : xs = [] := List.eq_nil_of_length_eq_zero (by have := hr.1; omega)
    subst hl
    go_enter Try.func39, Try.ntmps39
    go_wp2
    go_ret
    exact ⟨_, rfl, World.ownsRow_nil _ _ _ _, Below.refl _ _⟩
  | some ad =>
    have hr2 := Lib.hid (hr.alloc hB (.cells #[] 28))
    have H1 := Lib.hid h1
    have ho : (w.alloc (.cells #[] 28)).ownsRow w.heap.size 28 1 (.slice (some ⟨w.heap.size, 0, none⟩) 0 0) 0 [] :=
      ⟨rfl, .inr ⟨w.heap.size, 0, #[], rfl, Nat.le_refl _, Blk.new w 28 _, Nat.le_refl _, Nat.zero_le _, rfl, rfl⟩⟩
    clear hr h1
    go_enter Try.func39, Try.ntmps39
    go_wp2_with (at_builtin; refine wpList_append_any _ rfl _ _ 29 rfl w.heap.size 28 i0 _ 1 8 Try.underlying29 hi hz0 hz1 hz2 rfl (by decide) _ 0 [] rfl ho B (some ad) n c xs rfl hr2.out H1.out (by unfold maxLen; omega) (by omega) (by simp) ?_; intro v1 w1 hown1 hg1 _)
    go_ret
    exact ⟨_, rfl, by simpa using hown1, ((Below.refl _ _).alloc (Nat.le_refl _) _).grown hg1 (by simp) (fun k hk => by injection hk with hk; exact Nat.le_of_eq hk)⟩
end Go.Proofs.Ytbeeiecbbmiojaa
