/- slices.Delete of one pair of a row of the call's own; slices.Clone of a row of pairs. -/
import Derived.Test.YtihddficgpjgpaaIns
namespace Go.Proofs.Ytihddficgpjgpaa
open Go.RowKit Go.ChangeShapes Go.WideShapes Go.Shelf

theorem zero90 (w : World) : (zeroValue 90).run Try.prog w = .ok (.agg #[.int .u32 0, .int .i64 0]) w := by kernel_rfl
theorem zeros90 : (Builtin.zeroCells (Value.agg #[.int .u32 0, .int .i64 0]).cells 1).toList = [.int .u32 0, .int .i64 0] := by kernel_rfl

/-- What deleting the element at i (its cells from o on) leaves of the first N cells. -/
theorem delete_cells (L : List Value) (o k N : Nat) (z : List Value) (hz : z.length = k) (ho : o + k ≤ N) (hN : N ≤ L.length) :
    (over (over L.toArray o ((L.take N).drop (o + k))) (N - k) z).toList.take (N - k) = (L.take N).take o ++ (L.take N).drop (o + k) := by
  have hl : ((L.take N).drop (o + k)).length = N - (o + k) := by simp; omega
  rw [over_list, over_list]
  rw [List.take_append_of_le_length (by simp; omega), List.take_append_of_le_length (by simp; omega)]
  rw [List.take_take, Nat.min_self]
  rw [List.take_append_of_le_length (by simp; omega), List.take_of_length_le (by simp; omega), List.take_take, Nat.min_eq_left (by omega)]

set_option maxRecDepth 100000 in
set_option maxHeartbeats 1600000 in
theorem delete_any (B g c i n : Nat) (L : List Value) (w : World) (h : Blk w g 90 L.toArray) (hBg : B ≤ g) (hc : L.length = c * 2) (hc63 : c ≤ maxLen) (hi : i < n) (hn : n ≤ c) (h1 : ∀ u ∈ L.take (n * 2), u.oneCell' = true) :
    Calls Try.prog 104 #[.slice (some ⟨g, 0, none⟩) n c, .int .i64 i, .int .i64 ((i : Int) + 1)] w fun e w' => e = .returned (.slice (some ⟨g, 0, none⟩) (n - 1) c) ∧
      w'.ownsRow B 90 2 (.slice (some ⟨g, 0, none⟩) (n - 1) c) (n - 1) ((L.take (n * 2)).take (i * 2) ++ (L.take (n * 2)).drop ((i + 1) * 2)) ∧ w.grownBy w' (some g) := by
  obtain ⟨i0, hi0, hz0, hz1, hz2⟩ := info_parts Try.info90
  obtain ⟨news, hnews⟩ : ∃ news, news = (L.take (n * 2)).drop ((i + 1) * 2) := ⟨_, rfl⟩
  have hlen : news.length = (n - (i + 1)) * 2 := by rw [hnews]; simp; omega
  obtain ⟨A, hA, hsrc⟩ : ∃ A : Addr, (if c = i + 1 then some (⟨g, 0, none⟩ : Addr) else some ⟨g, (i + 1) * 2, none⟩) = some A ∧ Hid (∀ t u, news[t]? = some u → w.drew.cell? (A.add t) = some u) := by
    by_cases h' : c = i + 1
    · refine ⟨⟨g, 0, none⟩, by simp [h'], fun t u hu => ?_⟩
      have h0 : news.length = 0 := by rw [hlen]; omega
      rw [List.length_eq_zero_iff.1 h0] at hu
      simp at hu
    · refine ⟨⟨g, (i + 1) * 2, none⟩, by simp [h'], fun t u hu => ?_⟩
      have ht : t < (n - (i + 1)) * 2 := by
        have := (List.getElem?_eq_some_iff.1 hu).1
        rwa [hlen] at this
      rw [add_none]
      refine ((Blk.drew h).cell _).trans ?_
      rw [hnews, List.getElem?_drop, List.getElem?_take, if_pos (by omega)] at hu
      rw [← hu]; simp
  have s1 : Hid (news.length = (n - (i + 1)) * 2) := hlen
  have s2 : Hid (∀ u ∈ news, u.oneCell' = true) := fun u hu => by
    rw [hnews] at hu
    exact h1 u (List.mem_of_mem_drop hu)
  have s3 : Hid (∀ t, t < news.length → (w.drew.cell? ⟨g, 0 + i * 2 + t, none⟩).isSome = true ∧ w.drew.frozen? ⟨g, 0 + i * 2 + t, none⟩ = false) := fun t ht => by
    rw [hlen] at ht
    refine ⟨?_, (Blk.drew h).frozen _⟩
    rw [(Blk.drew h).cell]
    simp; omega
  obtain ⟨W1, hW1⟩ : ∃ W1, W1 = w.drew.setCells g (0 + i * 2) news := ⟨_, rfl⟩
  have hB1 : Blk W1 g 90 (over L.toArray (i * 2) news) := by
    rw [hW1, Nat.zero_add]
    exact Blk.setCells news (i * 2) (Blk.drew h) (by simp; omega)
  have hG1 : w.grownBy W1 (some g) := by rw [hW1]; exact only_setCells _ _ (only_drew (only_refl _ _))
  have hos : (over L.toArray (i * 2) news).size = c * 2 := by rw [over_size _ _ _ (by simp; omega)]; simpa using hc
  have hcl : ∀ ty, (Builtin.clear_ #[37] ty #[.slice (some ⟨g, (n - 1) * 2, none⟩) (n - (n - 1)) (c - (n - 1))]).run Try.prog W1 = .ok (.tuple #[]) (W1.setCells g ((n - 1) * 2) [.int .u32 0, .int .i64 0]) := fun ty => by
    rw [show n - (n - 1) = 1 by omega]
    have := run_clear_rows (P := Try.prog) W1 37 90 ty _ Try.underlying37 zero90 g ((n - 1) * 2) 1 (c - (n - 1)) (by rw [zeros90]; simp [Value.oneCell']) (by omega)
      (by rw [zeros90]; intro j hj; simp at hj; rw [hB1.cell]; simp; omega) (by rw [zeros90]; intro j _; exact hB1.frozen _)
    rwa [zeros90] at this
  have hB2 := hB1.setCells [.int .u32 0, .int .i64 0] ((n - 1) * 2) (by simp; omega)
  have HOWN := Lib.hid (own_of_blk (base := B) (n := n - 1) (c := c) (xs := (L.take (n * 2)).take (i * 2) ++ (L.take (n * 2)).drop ((i + 1) * 2)) hB2 hBg (by omega) hc63 (by rw [over_size _ _ _ (by rw [hos]; simp; omega), hos]) (by
    rw [hnews, show (i + 1) * 2 = i * 2 + 2 by omega, show (n - 1) * 2 = n * 2 - 2 by omega]
    exact delete_cells L (i * 2) 2 (n * 2) _ rfl (by omega) (by omega)))
  have hG2 := Lib.hid (only_setCells [.int .u32 0, .int .i64 0] ((n - 1) * 2) hG1)
  have hW : Hid (W1 = w.drew.setCells g (0 + i * 2) news) := hW1
  have hic : i ≤ c := by omega
  have hjc : i + 1 ≤ c := by omega
  have he : ¬ ((i : Int) = (i : Int) + 1) := by omega
  have hnn : i + (n - (i + 1)) = n - 1 := by omega
  have hb1 : (0 : Int) ≤ (i : Int) + 1 ∧ (i : Int) + 1 ≤ (n : Int) := by omega
  clear hW1 hB1 hG1 hnews hlen h hos hB2 h1
  unfold maxLen at hc63
  go_enter Try.func104, Try.ntmps104
  go_wp2_with fail
  go_region_law (refine step_append_room rfl (.tmp 22) (.tmp 25) 37 rfl 90 i0 2 Try.underlying37 hi0 hz1 g 0 i c (by simp [Act.eval, Act.put]) A (n - (i + 1)) (c - (i + 1)) news (by simp [Act.eval, Act.put]) s1.out hsrc.out s2.out (by omega) s3.out ?_; rw [← hW.out])
  go_wp2
  go_ret
  exact ⟨rfl, HOWN.out, hG2.out⟩

set_option maxHeartbeats 400000 in
theorem clone_any (A : Option Addr) (c : Nat) (l : List (Int × Int)) (B : Nat) (w : World) (h : PairsAt w B A l) (hB : B ≤ w.heap.size) (hm : l.length ≤ 1000000) :
    Calls Try.prog 102 #[.slice A l.length c] w fun e w' => ∃ v, e = .returned v ∧ w'.ownsRow w.heap.size 90 2 v l.length (pcells l) ∧ Below w.heap.size w w' := by
  obtain ⟨i0, hi, hz0, hz1, hz2⟩ := info_parts Try.info90
  have qT : ∀ (w : World) (a : Option Addr) (n c n' c' : Nat), (binOp .eql 37 (.slice a n c) (.slice none n' c')).run Try.prog w = .ok (.bool a.isNone) w := fun w a n c n' c' => Lib.run_eql_slice_nil w _ _ a n c n' c' Try.underlying37
  have hr := pairs_reads h
  cases A with
  | none =>
    have hl : l = [] := by
      rcases Nat.eq_zero_or_pos l.length with h0 | h0
      · exact List.eq_nil_of_length_eq_zero h0
      · obtain ⟨_, _, e, _⟩ := h h0
        cases e
    subst hl
    go_enter Try.func102, Try.ntmps102
    go_wp2
    go_ret
    exact ⟨_, rfl, World.ownsRow_nil _ _ _ _, Below.refl _ _⟩
  | some ad =>
    have hr2 := Lib.hid (hr.alloc hB (.cells #[] 90))
    have ho : (w.alloc (.cells #[] 90)).ownsRow w.heap.size 90 2 (.slice (some ⟨w.heap.size, 0, none⟩) 0 0) 0 [] :=
      ⟨rfl, .inr ⟨w.heap.size, 0, #[], rfl, Nat.le_refl _, Blk.new w 90 _, Nat.le_refl _, Nat.zero_le _, rfl, rfl⟩⟩
    clear h hr
    go_enter Try.func102, Try.ntmps102
    go_wp2_with (at_builtin; refine wpList_append_any _ rfl _ _ 37 rfl w.heap.size 90 i0 _ 2 16 Try.underlying37 hi hz0 hz1 hz2 rfl (by decide) _ 0 [] rfl ho B (some ad) l.length c (pcells l) rfl hr2.out (pcells_one l) (by unfold maxLen; omega) (by omega) (by simp) ?_; intro v1 w1 hown1 hg1 _)
    go_ret
    exact ⟨_, rfl, by simpa using hown1, ((Below.refl _ _).alloc (Nat.le_refl _) _).grown hg1 (by simp) (fun k hk => by injection hk with hk; exact Nat.le_of_eq hk)⟩
end Go.Proofs.Ytihddficgpjgpaa
