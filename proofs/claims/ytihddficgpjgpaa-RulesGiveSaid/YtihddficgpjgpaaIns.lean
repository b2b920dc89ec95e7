/- slices.Insert of one pair into a row of the call's own. -/
import Derived.Test.YtihddficgpjgpaaLw
import Derived.Test.YtihddficgpjgpaaCopyn
namespace Go.Proofs.Ytihddficgpjgpaa
open Go.RowKit Go.ChangeShapes Go.WideShapes Go.Shelf

theorem ins_over (L xs news : List Value) (o k N : Nat) (hL : L.take N = xs) (hlen : N + k ≤ L.length) (ho : o ≤ N) (hk : news.length = k) :
    ((L.take (o + k) ++ xs.drop o ++ L.drop (o + k + (xs.drop o).length)).take o ++ news ++ (L.take (o + k) ++ xs.drop o ++ L.drop (o + k + (xs.drop o).length)).drop (o + news.length)).take (N + k) = xs.take o ++ news ++ xs.drop o := by
  have hx : xs.length = N := by rw [← hL, List.length_take]; omega
  have h1 : (L.take (o + k) ++ xs.drop o ++ L.drop (o + k + (xs.drop o).length)).take o = xs.take o := by
    rw [List.append_assoc, List.take_append_of_le_length (by simp; omega), List.take_take, ← hL, List.take_take, Nat.min_eq_left (by omega), Nat.min_eq_left ho]
  have h2 : (L.take (o + k) ++ xs.drop o ++ L.drop (o + k + (xs.drop o).length)).drop (o + news.length) = xs.drop o ++ L.drop (o + k + (xs.drop o).length) := by
    rw [List.append_assoc, List.drop_append_of_le_length (by simp; omega), hk, List.drop_eq_nil_of_le (by simp; omega), List.nil_append]
  rw [h1, h2, ← List.append_assoc, List.take_left' (by simp; omega)]

theorem ins_over2 (L xs news : List Value) (o k N : Nat) (hx : xs.length = N) (hL : L.take o = xs.take o) (hlen : N + k ≤ L.length) (ho : o ≤ N) (hk : news.length = k) :
    ((L.take o ++ news ++ L.drop (o + news.length)).take (o + k) ++ xs.drop o ++ (L.take o ++ news ++ L.drop (o + news.length)).drop (o + k + (xs.drop o).length)).take (N + k) = xs.take o ++ news ++ xs.drop o := by
  have h1 : (L.take o ++ news ++ L.drop (o + news.length)).take (o + k) = L.take o ++ news := by
    rw [List.take_left' (by simp; omega)]
  rw [h1, hL, List.take_left' (by simp; omega)]

theorem grown_fresh {a w : World} {g : Nat} {row : Option Nat} (h : a.grownBy w (some g)) (hg : a.heap.size ≤ g) : a.grownBy w row :=
  ⟨h.os, h.tape, h.output, h.size, fun i hi _ => h.block i hi (by simp; omega)⟩
theorem Try.size90 : (Try.prog.info? 90).map (·.size) = some 2 := by kernel_rfl
theorem Try.sizeOf90 (w : World) : (Go.sizeOf 90).run Try.prog w = .ok 2 w := by kernel_rfl

set_option maxRecDepth 100000 in
set_option maxHeartbeats 1600000 in
theorem insert_end (B vb n c : Nat) (k x : Int) (A : Option Addr) (xs : List Value) (w : World) (hown : w.ownsRow B 90 2 (.slice A n c) n xs) (hv : Blk w vb 90 #[.int .u32 k, .int .i64 x]) (hn : n ≤ 1000000) (hB : B ≤ w.heap.size) :
    Calls Try.prog 105 #[.slice A n c, .int .i64 n, .slice (some ⟨vb, 0, none⟩) 1 1] w fun e w' => ∃ v, e = .returned v ∧ w'.ownsRow B 90 2 v (n + 1) (xs ++ [.int .u32 k, .int .i64 x]) ∧ w.grownBy w' (Value.slice A n c).ownBlock ∧
      (v.ownBlock = (Value.slice A n c).ownBlock ∨ v.ownBlock = some w.heap.size) := by
  obtain ⟨i0, hi0, hz0, hz1, hz2⟩ := info_parts Try.info90
  have hsrc : ∀ j u, [Value.int .u32 k, .int .i64 x][j]? = some u → w.cell? ((⟨vb, 0, none⟩ : Addr).add j) = some u := fun j u hu => by
    rw [add_none, hv.cell, ← hu]; simp
  have HS := Lib.hid hsrc
  have HO := Lib.hid (pair_one k x)
  have hnc := own_cap hown
  clear hsrc hv
  by_cases hcn : n = c
  · subst hcn
    go_enter Try.func105, Try.ntmps105
    go_wp2_with (at_builtin; refine wpList_append_own_at _ rfl _ _ 37 rfl B 90 i0 _ 2 16 Try.underlying37 hi0 hz0 hz1 hz2 rfl (by decide) (.slice A n n) _ _ rfl hown ⟨vb, 0, none⟩ 1 1 [.int .u32 k, .int .i64 x] rfl rfl HS.out HO.out (by unfold maxLen; omega) (by omega) hB ?_; intro v2 w2 o2 g2 _ a2)
    go_ret
    exact ⟨v2, rfl, o2, g2, a2⟩
  · have hcn' : ¬ c = n := fun e => hcn e.symm
    go_enter Try.func105, Try.ntmps105
    go_wp2_with (at_builtin; refine wpList_append_own_at _ rfl _ _ 37 rfl B 90 i0 _ 2 16 Try.underlying37 hi0 hz0 hz1 hz2 rfl (by decide) (.slice A n c) _ _ rfl hown ⟨vb, 0, none⟩ 1 1 [.int .u32 k, .int .i64 x] rfl rfl HS.out HO.out (by unfold maxLen; omega) (by omega) hB ?_; intro v2 w2 o2 g2 _ a2)
    go_ret
    exact ⟨v2, rfl, o2, g2, a2⟩

set_option maxRecDepth 100000 in
set_option maxHeartbeats 1600000 in
theorem insert_room (B vb n c i g : Nat) (k x : Int) (xs : List Value) (cur : Array Value) (w : World) (hg : Blk w g 90 cur) (hsz : cur.size = c * 2) (hxs : cur.toList.take (n * 2) = xs) (h1 : ∀ u ∈ xs, u.oneCell' = true) (hc : c ≤ maxLen) (hBg : B ≤ g)
    (hv : Blk w vb 90 #[.int .u32 k, .int .i64 x]) (hne : vb ≠ g) (hi : i < n) (hroom : n + 1 ≤ c) :
    Calls Try.prog 105 #[.slice (some ⟨g, 0, none⟩) n c, .int .i64 i, .slice (some ⟨vb, 0, none⟩) 1 1] w fun e w' => ∃ v, e = .returned v ∧ w'.ownsRow B 90 2 v (n + 1) (xs.take (i * 2) ++ [.int .u32 k, .int .i64 x] ++ xs.drop (i * 2)) ∧ w.grownBy w' (some g) ∧
      (v.ownBlock = some g ∨ v.ownBlock = some w.heap.size) := by
  have hxl : xs.length = n * 2 := by rw [← hxs, List.length_take, Array.length_toList]; omega
  have hov : ∀ lb cb, (callFunc 123 #[.slice (some ⟨vb, 0, none⟩) 1 1, .slice (some ⟨g, (i + 1) * 2, none⟩) lb cb]).run Try.prog w = .ok (.value (.bool false)) w := fun lb cb => by
    rw [run_callFunc_extern Try.func123 (by kernel_rfl) (by kernel_rfl) (by kernel_rfl) (e := Extern.SlicesOverlaps.overlaps #[37, 37] #[4]) (by kernel_rfl),
      Lib.run_overlaps_apart w 37 4 90 Try.underlying37 2 Try.sizeOf90 ⟨vb, 0, none⟩ ⟨g, (i + 1) * 2, none⟩ 1 1 lb cb hne 90 90 2 cur.size (by simp [World.shape?, show w.heap[vb]? = _ from hv]) (by simp [World.shape?, show w.heap[g]? = _ from hg]) (by omega) (hv.frozen 0) (hv.frozen 2)]
    rfl
  have hdl : (xs.drop (i * 2)).length = (n - i) * 2 := by rw [List.length_drop, hxl]; omega
  have hcp1 : ∀ ty dc sc, (Builtin.copy_ #[37, 37] ty #[.slice (some ⟨g, (i + 1) * 2, none⟩) (n - i) dc, .slice (some ⟨g, i * 2, none⟩) (n + 1 - i) sc]).run Try.prog w.drew = .ok (goInt ((n - i : Nat) : Int)) (w.drew.setCells g ((i + 1) * 2) (xs.drop (i * 2))) := fun ty dc sc => by
    have := run_copy_n (P := Try.prog) w.drew 37 37 ty 90 2 g ((i + 1) * 2) (n - i) dc ⟨g, i * 2, none⟩ (n + 1 - i) sc cur (xs.drop (i * 2)) Try.underlying37 Try.size90 hg.drew (by rw [hdl]; simp only [Nat.min_def]; split <;> omega)
      (blk_src hg.drew _ _ (fun j v hj => by
        rw [List.getElem?_drop, ← hxs, List.getElem?_take] at hj
        split at hj
        · simpa using hj
        · cases hj)) (by rw [hdl, hsz]; omega) (fun v hv => h1 v (List.mem_of_mem_drop hv))
    rwa [show Nat.min (n + 1 - i) (n - i) = n - i by simp only [Nat.min_def]; split <;> omega] at this
  have hg2 := Blk.setCells (xs.drop (i * 2)) ((i + 1) * 2) hg.drew (by rw [hdl, hsz]; omega)
  have hv2 : Blk (w.drew.setCells g ((i + 1) * 2) (xs.drop (i * 2))) vb 90 #[.int .u32 k, .int .i64 x] := by
    have G := only_setCells (xs.drop (i * 2)) ((i + 1) * 2) (only_refl w.drew (some g))
    exact hv.drew.grown G (by simpa using hne)
  have hsz2 : (over cur ((i + 1) * 2) (xs.drop (i * 2))).size = c * 2 := by rw [over_size _ _ _ (by rw [hdl, hsz]; omega), hsz]
  have hcp2 : ∀ ty dc, (Builtin.copy_ #[37, 37] ty #[.slice (some ⟨g, i * 2, none⟩) (n + 1 - i) dc, .slice (some ⟨vb, 0, none⟩) 1 1]).run Try.prog (w.drew.setCells g ((i + 1) * 2) (xs.drop (i * 2))) = .ok (goInt 1) ((w.drew.setCells g ((i + 1) * 2) (xs.drop (i * 2))).setCells g (i * 2) [.int .u32 k, .int .i64 x]) := fun ty dc => by
    have := run_copy_n (P := Try.prog) (w.drew.setCells g ((i + 1) * 2) (xs.drop (i * 2))) 37 37 ty 90 2 g (i * 2) (n + 1 - i) dc ⟨vb, 0, none⟩ 1 1 _ [.int .u32 k, .int .i64 x] Try.underlying37 Try.size90 hg2 (by simp only [Nat.min_def]; split <;> simp <;> omega)
      (fun j u hu => by rw [add_none, hv2.cell, ← hu]; simp) (by rw [hsz2]; simp; omega) (pair_one k x)
    rwa [show Nat.min 1 (n + 1 - i) = 1 by simp only [Nat.min_def]; split <;> omega] at this
  have hg3 := Blk.setCells [.int .u32 k, .int .i64 x] (i * 2) hg2 (by rw [hsz2]; simp; omega)
  have HOWN := Lib.hid (own_of_blk (base := B) (n := n + 1) (c := c) (xs := xs.take (i * 2) ++ [.int .u32 k, .int .i64 x] ++ xs.drop (i * 2)) hg3 hBg hroom hc (by rw [over_size _ _ _ (by rw [hsz2]; simp; omega), hsz2]) (by
    rw [over_list, over_list, show (i + 1) * 2 = i * 2 + 2 by omega, show (n + 1) * 2 = n * 2 + 2 by omega]
    exact ins_over cur.toList xs [.int .u32 k, .int .i64 x] (i * 2) 2 (n * 2) hxs (by rw [Array.length_toList]; omega) (by omega) rfl))
  have HG := Lib.hid (only_setCells [.int .u32 k, .int .i64 x] (i * 2) (only_setCells (xs.drop (i * 2)) ((i + 1) * 2) (only_drew (only_refl w (some g)))))
  have HC1 := Lib.hid hcp1
  have HC2 := Lib.hid hcp2
  clear hxl hdl hcp1 hcp2 hg2 hv2 hsz2 hg3 hg hv hsz hxs h1
  unfold maxLen at hc
  go_enter Try.func105, Try.ntmps105
  go_wp2_with (simp only [hov])
  clear hov
  have hw1 : IntKind.i64.wrap ((i : Int) + 1) = (i : Int) + 1 := IntWalk.i64_in _ (by omega)
  have hb1 : (0 : Int) ≤ (i : Int) + 1 ∧ (i : Int) + 1 ≤ (n : Int) + 1 := by omega
  have hb2 : ((i : Int) + 1).toNat = i + 1 := by omega
  have hb3 : ¬ c = i + 1 := by omega
  have hb4 : ¬ c = i := by omega
  have hb5 : (0 : Int) ≤ (i : Int) ∧ (i : Int) ≤ (n : Int) + 1 := by omega
  have hb6 : n + 1 - (i + 1) = n - i := by omega
  go_region_law (refine step_copy_by rfl (.tmp 73) (.tmp 76) 37 37 rfl (.slice (some ⟨g, (i + 1) * 2, none⟩) (n - i) (c - (i + 1))) (.slice (some ⟨g, i * 2, none⟩) (n + 1 - i) (c - i)) (by simp [Act.eval, Act.put]) (by simp [Act.eval, Act.put]) (HC1.out 3 (c - (i + 1)) (c - i)) ?_)
  go_wp2_with (with_reducible refine wpList_copy_by _ rfl (.tmp 80) (.tmp 81) 37 37 rfl (.slice (some ⟨g, i * 2, none⟩) (n + 1 - i) (c - i)) (.slice (some ⟨vb, 0, none⟩) 1 1) rfl rfl (HC2.out 3 (c - i)) ?_)
  go_ret
  exact ⟨_, rfl, HOWN.out, HG.out, .inl rfl⟩

theorem zeroCells_size (zs : Array Value) (n : Nat) : (Builtin.zeroCells zs n).size = n * zs.size := by simp [Builtin.zeroCells]

set_option maxRecDepth 100000 in
set_option maxHeartbeats 1600000 in
theorem insert_grow (B vb n i g : Nat) (k x : Int) (xs : List Value) (cur : Array Value) (w : World) (hg : Blk w g 90 cur) (hsz : cur.size = n * 2) (hxs : cur.toList.take (n * 2) = xs) (h1 : ∀ u ∈ xs, u.oneCell' = true) (hn : n ≤ 1000000)
    (hv : Blk w vb 90 #[.int .u32 k, .int .i64 x]) (hi : i < n) (hBw : B ≤ w.heap.size) :
    Calls Try.prog 105 #[.slice (some ⟨g, 0, none⟩) n n, .int .i64 i, .slice (some ⟨vb, 0, none⟩) 1 1] w fun e w' => ∃ v, e = .returned v ∧ w'.ownsRow B 90 2 v (n + 1) (xs.take (i * 2) ++ [.int .u32 k, .int .i64 x] ++ xs.drop (i * 2)) ∧ w.grownBy w' (some g) ∧
      (v.ownBlock = some g ∨ v.ownBlock = some w.heap.size) := by
  obtain ⟨i0, hi0, hz0, hz1, hz2⟩ := info_parts Try.info90
  have hxl : xs.length = n * 2 := by rw [← hxs, List.length_take, Array.length_toList]; omega
  have hdl : (xs.drop (i * 2)).length = (n - i) * 2 := by rw [List.length_drop, hxl]; omega
  have hcur : ∀ j v, xs[j]? = some v → cur[j]? = some v := fun j v hj => by
    rw [← hxs, List.getElem?_take] at hj
    split at hj
    · simpa using hj
    · cases hj
  have hold : (Builtin.firstCells i0.size i (.slice (some ⟨g, 0, none⟩) i n)).run Try.prog w.drew = .ok (xs.take (i * 2)).toArray w.drew := by
    rw [hz1]
    refine run_firstCells_some w.drew 2 i ⟨g, 0, none⟩ i n (xs.take (i * 2)) (by rw [List.length_take, hxl]; omega) (fun j v hj => ?_)
    rw [add_none, Nat.zero_add, hg.drew.cell]
    rw [List.getElem?_take] at hj
    split at hj
    · exact hcur j v hj
    · cases hj
  have hik : i + (n + 1 - i) = n + 1 := by omega
  have hrz : ∀ ty, (Builtin.append_ #[37, 3] ty #[.slice (some ⟨g, 0, none⟩) i n, .int .i64 ((n + 1 - i : Nat) : Int)]).run Try.prog w =
      .ok (.slice (some ⟨w.heap.size, 0, none⟩) (n + 1) (grownCap w (n + 1) n 90)) (w.drew.alloc (.cells ((xs.take (i * 2)).toArray ++ Builtin.zeroCells #[.int .u32 0, .int .i64 0] (n + 1 - i) ++ Builtin.zeroCells #[.int .u32 0, .int .i64 0] (grownCap w (n + 1) n 90 - (n + 1))) 90)) := fun ty => by
    have h := Lib.run_append_grow_zeros w 37 3 ty 90 i0 (.agg #[.int .u32 0, .int .i64 0]) .i64 .i64 Try.underlying37 Try.underlying3 hi0 hz0 (some ⟨g, 0, none⟩) i n (xs.take (i * 2)) hold (n + 1 - i) (by omega) (by omega) (by omega) (by omega) (by rw [hz2]; omega) (by rw [hz2, hik]; exact growslice_fits (by omega) (by omega))
    rw [hik] at h
    exact h
  have hGn : n + 1 ≤ grownCap w (n + 1) n 90 := grownCap_ge w _ _ _
  have hG63 : grownCap w (n + 1) n 90 ≤ maxLen := grownCap_le_maxLen w (n + 1) n 90 (by unfold maxLen; omega)
  generalize grownCap w (n + 1) n 90 = G at *
  obtain ⟨ROW, hROW⟩ : ∃ ROW : Array Value, (xs.take (i * 2)).toArray ++ Builtin.zeroCells #[.int .u32 0, .int .i64 0] (n + 1 - i) ++ Builtin.zeroCells #[.int .u32 0, .int .i64 0] (G - (n + 1)) = ROW := ⟨_, rfl⟩
  rw [hROW] at hrz
  have hRs : ROW.size = G * 2 := by
    rw [← hROW]
    simp [zeroCells_size, hxl]
    omega
  have hRt : ROW.toList.take (i * 2) = xs.take (i * 2) := by
    rw [← hROW]
    simp only [Array.toList_append, List.append_assoc]
    rw [List.take_left' (by simp [hxl]; omega)]
  have hgw := hg.lt
  have hvw := hv.lt
  have hR0 : Blk (w.drew.alloc (.cells ROW 90)) w.heap.size 90 ROW := Blk.new w.drew 90 ROW
  have hg0 : Blk (w.drew.alloc (.cells ROW 90)) g 90 cur := hg.drew.alloc _
  have hv0 : Blk (w.drew.alloc (.cells ROW 90)) vb 90 #[.int .u32 k, .int .i64 x] := hv.drew.alloc _
  have hG0 : w.grownBy (w.drew.alloc (.cells ROW 90)) (some w.heap.size) := only_alloc (only_drew (only_refl w _)) _
  obtain ⟨w1, hw1⟩ : ∃ w1, w.drew.alloc (.cells ROW 90) = w1 := ⟨_, rfl⟩
  rw [hw1] at hrz hR0 hg0 hv0 hG0
  have hcp1 : ∀ ty dc, (Builtin.copy_ #[37, 37] ty #[.slice (some ⟨w.heap.size, i * 2, none⟩) (n + 1 - i) dc, .slice (some ⟨vb, 0, none⟩) 1 1]).run Try.prog w1 = .ok (goInt 1) (w1.setCells w.heap.size (i * 2) [.int .u32 k, .int .i64 x]) := fun ty dc => by
    have := run_copy_n (P := Try.prog) w1 37 37 ty 90 2 w.heap.size (i * 2) (n + 1 - i) dc ⟨vb, 0, none⟩ 1 1 _ [.int .u32 k, .int .i64 x] Try.underlying37 Try.size90 hR0 (by simp only [Nat.min_def]; split <;> simp <;> omega)
      (fun j u hu => by rw [add_none, hv0.cell, ← hu]; simp) (by rw [hRs]; simp; omega) (pair_one k x)
    rwa [show Nat.min 1 (n + 1 - i) = 1 by simp only [Nat.min_def]; split <;> omega] at this
  have hR1 := Blk.setCells [.int .u32 k, .int .i64 x] (i * 2) hR0 (by rw [hRs]; simp; omega)
  have hG1 := only_setCells [.int .u32 k, .int .i64 x] (i * 2) hG0
  have hg1 : Blk (w1.setCells w.heap.size (i * 2) [.int .u32 k, .int .i64 x]) g 90 cur := hg.grown hG1 (by simp; omega)
  have hsz1 : (over ROW (i * 2) [.int .u32 k, .int .i64 x]).size = G * 2 := by rw [over_size _ _ _ (by rw [hRs]; simp; omega), hRs]
  have hcp2 : ∀ ty dc sc, (Builtin.copy_ #[37, 37] ty #[.slice (some ⟨w.heap.size, (i + 1) * 2, none⟩) (n - i) dc, .slice (some ⟨g, i * 2, none⟩) (n - i) sc]).run Try.prog (w1.setCells w.heap.size (i * 2) [.int .u32 k, .int .i64 x]).drew =
      .ok (goInt ((n - i : Nat) : Int)) ((w1.setCells w.heap.size (i * 2) [.int .u32 k, .int .i64 x]).drew.setCells w.heap.size ((i + 1) * 2) (xs.drop (i * 2))) := fun ty dc sc => by
    have := run_copy_n (P := Try.prog) (w1.setCells w.heap.size (i * 2) [.int .u32 k, .int .i64 x]).drew 37 37 ty 90 2 w.heap.size ((i + 1) * 2) (n - i) dc ⟨g, i * 2, none⟩ (n - i) sc _ (xs.drop (i * 2)) Try.underlying37 Try.size90 hR1.drew (by rw [hdl]; simp)
      (blk_src hg1.drew _ _ (fun j v hj => by rw [List.getElem?_drop] at hj; exact hcur _ _ hj)) (by rw [hdl, hsz1]; omega) (fun v hv => h1 v (List.mem_of_mem_drop hv))
    rwa [show Nat.min (n - i) (n - i) = n - i by simp] at this
  have hR2 := Blk.setCells (xs.drop (i * 2)) ((i + 1) * 2) hR1.drew (by rw [hdl, hsz1]; omega)
  have HOWN := Lib.hid (own_of_blk (base := B) (n := n + 1) (c := G) (xs := xs.take (i * 2) ++ [.int .u32 k, .int .i64 x] ++ xs.drop (i * 2)) hR2 hBw hGn hG63 (by rw [over_size _ _ _ (by rw [hdl, hsz1]; omega), hsz1]) (by
    rw [over_list, over_list, show (i + 1) * 2 = i * 2 + 2 by omega, show (n + 1) * 2 = n * 2 + 2 by omega]
    exact ins_over2 ROW.toList xs [.int .u32 k, .int .i64 x] (i * 2) 2 (n * 2) hxl hRt (by rw [Array.length_toList]; omega) (by omega) rfl))
  have HG := Lib.hid (grown_fresh (only_setCells (xs.drop (i * 2)) ((i + 1) * 2) (only_drew hG1)) (Nat.le_refl _) (row := some g))
  have HC1 := Lib.hid hcp1
  have HC2 := Lib.hid hcp2
  have HRZ := Lib.hid hrz
  have hkk : (n : Int) + 1 - i = ((n + 1 - i : Nat) : Int) := by omega
  have HKK := Lib.hid hkk
  clear hxl hdl hcp1 hcp2 hcur hold hrz hROW hRs hRt hR0 hg0 hv0 hG0 hw1 hR1 hG1 hg1 hsz1 hR2 hg hv hsz hxs h1 hz0 hz1 hz2 hi0 hik hkk
  unfold maxLen at hG63
  have hlt3 : (n : Int) < (n : Int) + 1 := by omega
  go_enter Try.func105, Try.ntmps105
  go_wp2_with (first
    | (at_builtin; rw [HKK.out]; refine wpList_builtin_by _ rfl (.tmp 34) (.tmp 39) 37 3 rfl _ _ rfl rfl (HRZ.out _) ?_)
    | (with_reducible refine wpList_copy_by _ rfl (.tmp 43) (.tmp 44) 37 37 rfl (.slice (some ⟨w.heap.size, i * 2, none⟩) (n + 1 - i) (G - i)) (.slice (some ⟨vb, 0, none⟩) 1 1) rfl rfl (HC1.out 3 (G - i)) ?_))
  have hw2 : IntKind.i64.wrap ((i : Int) + 1) = (i : Int) + 1 := IntWalk.i64_in _ (by omega)
  have hb1 : (0 : Int) ≤ (i : Int) + 1 ∧ (i : Int) + 1 ≤ (n : Int) + 1 := by omega
  have hb2 : ((i : Int) + 1).toNat = i + 1 := by omega
  have hb3 : ¬ G = i + 1 := by omega
  have hb4 : ¬ n = i := by omega
  have hb5 : (0 : Int) ≤ (i : Int) ∧ (i : Int) ≤ (n : Int) := by omega
  have hb6 : n + 1 - (i + 1) = n - i := by omega
  clear hgw hvw
  go_region_law (refine step_copy_by rfl (.tmp 50) (.tmp 53) 37 37 rfl (.slice (some ⟨w.heap.size, (i + 1) * 2, none⟩) (n - i) (G - (i + 1))) (.slice (some ⟨g, i * 2, none⟩) (n - i) (n - i)) (by simp [Act.eval, Act.put]) (by simp [Act.eval, Act.put]) (HC2.out 3 (G - (i + 1)) (n - i)) ?_)
  go_wp2
  go_ret
  exact ⟨_, rfl, HOWN.out, HG.out, .inr rfl⟩

/-- One pair put in at a place. -/
theorem insert_any (B vb n c i : Nat) (k x : Int) (A : Option Addr) (xs : List Value) (w : World) (hown : w.ownsRow B 90 2 (.slice A n c) n xs) (h1 : ∀ u ∈ xs, u.oneCell' = true) (hv : Blk w vb 90 #[.int .u32 k, .int .i64 x]) (hne : some vb ≠ (Value.slice A n c).ownBlock)
    (hi : i ≤ n) (hn : n ≤ 1000000) (hB : B ≤ w.heap.size) :
    Calls Try.prog 105 #[.slice A n c, .int .i64 i, .slice (some ⟨vb, 0, none⟩) 1 1] w fun e w' => ∃ v, e = .returned v ∧ w'.ownsRow B 90 2 v (n + 1) (xs.take (i * 2) ++ [.int .u32 k, .int .i64 x] ++ xs.drop (i * 2)) ∧ w.grownBy w' (Value.slice A n c).ownBlock ∧
      (v.ownBlock = (Value.slice A n c).ownBlock ∨ v.ownBlock = some w.heap.size) := by
  by_cases he : i = n
  · subst he
    have hl : xs.length = i * 2 := hown.1
    rw [List.take_of_length_le (by omega), List.drop_eq_nil_of_le (by omega), List.append_nil]
    exact insert_end B vb i c k x A xs w hown hv hn hB
  · obtain ⟨g, cur, rfl, hb, hg, h2, h3, h4, h5⟩ := own_blk hown (by omega)
    have hob : (Value.slice (some ⟨g, 0, none⟩) n c).ownBlock = some g := rfl
    rw [hob] at hne ⊢
    by_cases hr : n + 1 ≤ c
    · exact insert_room B vb n c i g k x xs cur w hg h4 h5 h1 h3 hb hv (by simpa using hne) (by omega) hr
    · obtain rfl : n = c := by omega
      exact insert_grow B vb n i g k x xs cur w hg h4 h5 h1 hn hv (by omega) hB

end Go.Proofs.Ytihddficgpjgpaa
