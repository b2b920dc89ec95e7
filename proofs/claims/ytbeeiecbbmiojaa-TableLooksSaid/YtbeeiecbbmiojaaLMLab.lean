/- MLab: the laws of labels, in this seat's numbers. -/
import Derived.Test.YtbeeiecbbmiojaaLMTop
import Derived.Test.YtbeeiecbbmiojaaCopyn
import Derived.Deep.RegionHeld3
import Derived.Deep.DeepCutAuto
import Derived.Deep.CutBlock
namespace Go.Proofs.Ytbeeiecbbmiojaa.Lb
open Go.RowKit Go.ChangeShapes Go.WideShapes Go.Shelf
theorem cmp_lt (cat lev c : Int) (w : World) (h : cat < c) : Calls Try.prog 65 #[.agg #[.int .u32 cat, .int .i64 lev], .int .u32 c] w fun e w' => e = .returned (.int .i64 (-1)) ∧ Below w.heap.size w w' := by
  have b := (Below.refl w.heap.size w).alloc (Nat.le_refl _) (.cells #[.int .u32 cat, .int .i64 lev] 117)
  go_enter Try.func65, Try.ntmps65
  go_wp2
  go_ret
  exact ⟨rfl, b⟩
theorem cmp_gt (cat lev c : Int) (w : World) (h : c < cat) : Calls Try.prog 65 #[.agg #[.int .u32 cat, .int .i64 lev], .int .u32 c] w fun e w' => e = .returned (.int .i64 1) ∧ Below w.heap.size w w' := by
  have b := (Below.refl w.heap.size w).alloc (Nat.le_refl _) (.cells #[.int .u32 cat, .int .i64 lev] 117)
  have h2 : c ≤ cat := by omega
  go_enter Try.func65, Try.ntmps65
  go_wp2
  go_ret
  exact ⟨rfl, b⟩
theorem cmp_eq (lev c : Int) (w : World) : Calls Try.prog 65 #[.agg #[.int .u32 c, .int .i64 lev], .int .u32 c] w fun e w' => e = .returned (.int .i64 0) ∧ Below w.heap.size w w' := by
  have b := (Below.refl w.heap.size w).alloc (Nat.le_refl _) (.cells #[.int .u32 c, .int .i64 lev] 117)
  have h2 : c ≤ c := by omega
  go_enter Try.func65, Try.ntmps65
  go_wp2
  go_ret
  exact ⟨rfl, b⟩
/-- Place i is the first whose category isn't below c. -/
def IsLow (ps : List (Int × Int)) (c : Int) (i : Nat) : Prop := i ≤ ps.length ∧ (∀ t (h : t < ps.length), t < i → ps[t].1 < c) ∧ (∀ t (h : t < ps.length), i ≤ t → c ≤ ps[t].1)
def RFind (w : World) (B : Nat) (A : Option Addr) (ps : List (Int × Int)) (c : Int) (vi vj : Value) (wr : World) : Prop :=
  ∃ i j : Nat, i ≤ j ∧ j ≤ ps.length ∧ vi = .int .i64 i ∧ vj = .int .i64 j ∧ (∀ t (h : t < ps.length), t < i → ps[t].1 < c) ∧ (∀ t (h : t < ps.length), j ≤ t → c ≤ ps[t].1) ∧ PairsAt wr B A ps ∧ Below w.heap.size w wr
def FindEnd (w : World) (ps : List (Int × Int)) (c : Int) (e : Ending) (w' : World) : Prop :=
  ∃ i : Nat, IsLow ps c i ∧ e = .returned (.tuple #[.int .i64 i, .bool (decide (∃ h : i < ps.length, ps[i].1 = c))]) ∧ Below w.heap.size w w'
theorem rise_pair : ∀ {ps : List (Int × Int)} {m : Int}, Rise m ps → ∀ s t (hs : s < ps.length) (ht : t < ps.length), s ≤ t → ps[s].1 ≤ ps[t].1
  | p :: r, m, h, 0, 0, _, _, _ => Int.le_refl _
  | p :: r, m, h, 0, t + 1, _, ht, _ => by
    have ht' : t < r.length := by simpa using ht
    have := h.2.lt r[t] (List.getElem_mem _)
    show p.1 ≤ r[t].1
    omega
  | p :: r, m, h, s + 1, t + 1, hs, ht, hst => rise_pair h.2 s t (by simpa using hs) (by simpa using ht) (by omega)
set_option maxRecDepth 100000 in
set_option maxHeartbeats 1600000 in
theorem search_any (A : Option Addr) (cp : Nat) (ps : List (Int × Int)) (c : Int) (B : Nat) (w : World) (h : PairsAt w B A ps) (hB : B ≤ w.heap.size) (hm : ps.length ≤ 1000000) (hr : Rise 0 ps) :
    Calls Try.prog 64 #[.slice A ps.length cp, .int .u32 c, .func (.func 65) #[] #[]] w (FindEnd w ps c) := by
  have HR := Lib.hid (rise_pair hr)
  have r0 : RFind w B A ps c (.int .i64 0) (.int .i64 (ps.length : Int)) w := ⟨0, ps.length, Nat.zero_le _, Nat.le_refl _, rfl, rfl, fun t _ h => absurd h (by omega), fun t h h' => absurd h (by omega), h, Below.refl _ _⟩
  clear h hr
  go_enter Try.func64, Try.ntmps64
  go_wp2
  go_loopw [9, 10] (fun vi vj wr => RFind w B A ps c vi vj wr) (fun vi vj _ => (intOf vj).toNat - (intOf vi).toNat)
  case atStart => exact r0
  case round =>
    clear r0
    obtain ⟨i, j, hij, hj, rfl, rfl, h1, h2, hp, hb⟩ := hrel
    have H1 := Lib.hid h1
    have H2 := Lib.hid h2
    clear h1 h2
    by_cases hlt : i < j
    · obtain ⟨b, off, rfl, hbB, hc⟩ := hp (by omega)
      have hP := Lib.hid hp
      obtain ⟨e0, e1⟩ := hc ((i + j) / 2) (by omega)
      clear hc hp
      have hq1 : i ≤ (i + j) / 2 ∧ (i + j) / 2 < j := by omega
      rcases Int.lt_trichotomy (ps[(i + j) / 2]'(by omega)).1 c with hcmp | hcmp | hcmp
      · have N1 : Hid (∀ t (h : t < ps.length), t < (i + j) / 2 + 1 → ps[t].1 < c) := fun t h ht => by
          have := HR.out t ((i + j) / 2) h (by omega) (by omega)
          omega
        generalize ps[(i + j) / 2] = pr at *
        obtain ⟨cat, lev⟩ := pr
        simp only at e0 e1 hcmp
        go_wp2_with (go_at_call 65; refine (cmp_lt cat lev c _ hcmp).mono ?_; rintro e w1 ⟨rfl, hb1⟩)
        go_roundw
        case rel => exact ⟨(i + j) / 2 + 1, j, by omega, by omega, val_int (by omega), rfl, N1.out, H2.out, hP.out.below (hb1.mono (Nat.le_trans hB hb.size)), hb.trans (hb1.mono hb.size)⟩
        case measure => simp [intOf]; omega
      · have N1 : Hid (∀ t (h : t < ps.length), (i + j) / 2 ≤ t → c ≤ ps[t].1) := fun t h ht => by
          have := HR.out ((i + j) / 2) t (by omega) h ht
          omega
        generalize ps[(i + j) / 2] = pr at *
        obtain ⟨cat, lev⟩ := pr
        simp only at e0 e1 hcmp
        subst hcmp
        go_wp2_with (go_at_call 65; refine (cmp_eq lev cat _).mono ?_; rintro e w1 ⟨rfl, hb1⟩)
        go_roundw
        case rel => exact ⟨i, (i + j) / 2, by omega, by omega, rfl, val_int (by omega), H1.out, N1.out, hP.out.below (hb1.mono (Nat.le_trans hB hb.size)), hb.trans (hb1.mono hb.size)⟩
        case measure => simp [intOf]; omega
      · have N1 : Hid (∀ t (h : t < ps.length), (i + j) / 2 ≤ t → c ≤ ps[t].1) := fun t h ht => by
          have := HR.out ((i + j) / 2) t (by omega) h ht
          omega
        generalize ps[(i + j) / 2] = pr at *
        obtain ⟨cat, lev⟩ := pr
        simp only at e0 e1 hcmp
        go_wp2_with (go_at_call 65; refine (cmp_gt cat lev c _ hcmp).mono ?_; rintro e w1 ⟨rfl, hb1⟩)
        go_roundw
        case rel => exact ⟨i, (i + j) / 2, by omega, by omega, rfl, val_int (by omega), H1.out, N1.out, hP.out.below (hb1.mono (Nat.le_trans hB hb.size)), hb.trans (hb1.mono hb.size)⟩
        case measure => simp [intOf]; omega
    · obtain rfl : i = j := by omega
      have hlow : Hid (IsLow ps c i) := ⟨hj, H1.out, H2.out⟩
      by_cases hin : i < ps.length
      · obtain ⟨b, off, rfl, hbB, hc⟩ := hp (by omega)
        obtain ⟨e0, e1⟩ := hc i hin
        have hP := Lib.hid hp
        clear hc hp
        rcases Int.lt_trichotomy ps[i].1 c with hcmp | hcmp | hcmp
        · have hfin := Lib.hid (show (decide (∃ h : i < ps.length, ps[i].1 = c)) = false by simp; intro _; omega)
          generalize ps[i] = pr at *
          obtain ⟨cat, lev⟩ := pr
          simp only at e0 e1 hcmp
          go_wp2_with (go_at_call 65; refine (cmp_lt cat lev c _ hcmp).mono ?_; rintro e w1 ⟨rfl, hb1⟩)
          go_ret2
          exact ⟨i, hlow.out, by rw [hfin.out]; rfl, hb.trans (hb1.mono hb.size)⟩
        · have hfin := Lib.hid (show (decide (∃ h : i < ps.length, ps[i].1 = c)) = true by simp; exact ⟨hin, hcmp⟩)
          generalize ps[i] = pr at *
          obtain ⟨cat, lev⟩ := pr
          simp only at e0 e1 hcmp
          subst hcmp
          go_wp2_with (go_at_call 65; refine (cmp_eq lev cat _).mono ?_; rintro e w1 ⟨rfl, hb1⟩)
          go_ret2
          exact ⟨i, hlow.out, by rw [hfin.out]; rfl, hb.trans (hb1.mono hb.size)⟩
        · have hfin := Lib.hid (show (decide (∃ h : i < ps.length, ps[i].1 = c)) = false by simp; intro _; omega)
          generalize ps[i] = pr at *
          obtain ⟨cat, lev⟩ := pr
          simp only at e0 e1 hcmp
          go_wp2_with (go_at_call 65; refine (cmp_gt cat lev c _ hcmp).mono ?_; rintro e w1 ⟨rfl, hb1⟩)
          go_ret2
          exact ⟨i, hlow.out, by rw [hfin.out]; rfl, hb.trans (hb1.mono hb.size)⟩
      · have hfin := Lib.hid (show (decide (∃ h : i < ps.length, ps[i].1 = c)) = false by simp; omega)
        clear hp
        go_wp2_with fail
        go_ret2
        exact ⟨i, hlow.out, by rw [hfin.out]; rfl, hb⟩
set_option maxHeartbeats 400000 in
theorem find_any (v : Value) (l : Lab) (c : Int) (w : World) (h : LabV w w.heap.size v l) (hl : l.ps.length ≤ 100000) (hg : Good l) :
    Calls Try.prog 50 #[v, .int .u32 c] w (FindEnd w l.ps c) := by
  obtain ⟨A, cp, rfl, hp, hcp⟩ := h
  have b0 := (Below.refl w.heap.size w).alloc (Nat.le_refl _) (.cells #[.int .i64 l.d, .slice A l.ps.length cp] 34)
  go_enter Try.func50, Try.ntmps50
  go_wp2_with fail
  have hp2 := hp.below b0
  generalize w.alloc (.cells #[.int .i64 l.d, .slice A l.ps.length cp] 34) = w1 at *
  refine (search_any A cp l.ps c w.heap.size w1 hp2 b0.size (by omega) hg.rise).mono ?_
  rintro e w2 ⟨i, hi, rfl, hb⟩
  have HI := Lib.hid hi
  clear hi hp hp2
  go_wp2_with fail
  go_ret2
  exact ⟨i, HI.out, rfl, b0.trans (hb.mono b0.size)⟩
end Go.Proofs.Ytbeeiecbbmiojaa.Lb
namespace Go.Proofs.Ytbeeiecbbmiojaa.Lb
open Go.RowKit Go.ChangeShapes Go.WideShapes Go.Shelf
theorem ins_over (L xs news : List Value) (o k N : Nat) (hL : L.take N = xs) (hlen : N + k ≤ L.length) (ho : o ≤ N) (hk : news.length = k) :
    ((L.take (o + k) ++ xs.drop o ++ L.drop (o + k + (xs.drop o).length)).take o ++ news ++ (L.take (o + k) ++ xs.drop o ++ L.drop (o + k + (xs.drop o).length)).drop (o + news.length)).take (N + k) = xs.take o ++ news ++ xs.drop o := by
  have hx : xs.length = N := by rw [← hL, List.length_take]; omega
  have h1 : (L.take (o + k) ++ xs.drop o ++ L.drop (o + k + (xs.drop o).length)).take o = xs.take o := by
    rw [List.append_assoc, List.take_append_of_le_length (by simp; omega), List.take_take, ← hL, List.take_take, Nat.min_eq_left (by omega), Nat.min_eq_left ho]
  have h2 : (L.take (o + k) ++ xs.drop o ++ L.drop (o + k + (xs.drop o).length)).drop (o + news.length) = xs.drop o ++ L.drop (o + k + (xs.drop o).length) := by
    rw [List.append_assoc, List.drop_append_of_le_length (by simp; omega), hk, List.drop_eq_nil_of_le (by simp; omega), List.nil_append]
  rw [h1, h2, ← List.append_assoc, List.take_left' (by simp; omega)]
theorem ins_over2 (L xs news : List Value) (o k N : Nat) (hx : xs.length = N) (hL : L.take o = xs.take o) (hlen : N + k ≤ L.length) (ho : o ≤ N) (hk : news.length = k) :
    ((L.take o ++ news ++ L.drop (o + news.length)).take (o + k) ++ xs.drop o ++ (L.take o ++ news ++ L.drop (o + news.length)).drop (o + k + (xs.drop o).length)).take (N + k) = xs.take o ++ news ++ xs.drop o := by
  have h1 : (L.take o ++ news ++ L.drop (o + news.length)).take (o + k) = L.take o ++ news := by
    rw [List.take_left' (by simp; omega)]
  rw [h1, hL, List.take_left' (by simp; omega)]
theorem grown_fresh {a w : World} {g : Nat} {row : Option Nat} (h : a.grownBy w (some g)) (hg : a.heap.size ≤ g) : a.grownBy w row :=
  ⟨h.os, h.tape, h.output, h.size, fun i hi _ => h.block i hi (by simp; omega)⟩
theorem Try.size90 : (Try.prog.info? 117).map (·.size) = some 2 := by kernel_rfl
theorem Try.sizeOf90 (w : World) : (Go.sizeOf 117).run Try.prog w = .ok 2 w := by kernel_rfl
set_option maxRecDepth 100000 in
set_option maxHeartbeats 1600000 in
theorem insert_end (B vb n c : Nat) (k x : Int) (A : Option Addr) (xs : List Value) (w : World) (hown : w.ownsRow B 117 2 (.slice A n c) n xs) (hv : Blk w vb 117 #[.int .u32 k, .int .i64 x]) (hn : n ≤ 1000000) (hB : B ≤ w.heap.size) :
    Calls Try.prog 52 #[.slice A n c, .int .i64 n, .slice (some ⟨vb, 0, none⟩) 1 1] w fun e w' => ∃ v, e = .returned v ∧ w'.ownsRow B 117 2 v (n + 1) (xs ++ [.int .u32 k, .int .i64 x]) ∧ w.grownBy w' (Value.slice A n c).ownBlock ∧
      (v.ownBlock = (Value.slice A n c).ownBlock ∨ v.ownBlock = some w.heap.size) := by
  obtain ⟨i0, hi0, hz0, hz1, hz2⟩ := info_parts Try.info117
  have hsrc : ∀ j u, [Value.int .u32 k, .int .i64 x][j]? = some u → w.cell? ((⟨vb, 0, none⟩ : Addr).add j) = some u := fun j u hu => by
    rw [add_none, hv.cell, ← hu]; simp
  have HS := Lib.hid hsrc
  have HO := Lib.hid (pair_one k x)
  have hnc := own_cap hown
  clear hsrc hv
  by_cases hcn : n = c
  · subst hcn
    go_enter Try.func52, Try.ntmps52
    go_wp2_with (at_builtin; refine wpList_append_own_at _ rfl _ _ 32 rfl B 117 i0 _ 2 16 Try.underlying32 hi0 hz0 hz1 hz2 rfl (by decide) (.slice A n n) _ _ rfl hown ⟨vb, 0, none⟩ 1 1 [.int .u32 k, .int .i64 x] rfl rfl HS.out HO.out (by unfold maxLen; omega) (by omega) hB ?_; intro v2 w2 o2 g2 _ a2)
    go_ret
    exact ⟨v2, rfl, o2, g2, a2⟩
  · have hcn' : ¬ c = n := fun e => hcn e.symm
    go_enter Try.func52, Try.ntmps52
    go_wp2_with (at_builtin; refine wpList_append_own_at _ rfl _ _ 32 rfl B 117 i0 _ 2 16 Try.underlying32 hi0 hz0 hz1 hz2 rfl (by decide) (.slice A n c) _ _ rfl hown ⟨vb, 0, none⟩ 1 1 [.int .u32 k, .int .i64 x] rfl rfl HS.out HO.out (by unfold maxLen; omega) (by omega) hB ?_; intro v2 w2 o2 g2 _ a2)
    go_ret
    exact ⟨v2, rfl, o2, g2, a2⟩
set_option maxRecDepth 100000 in
set_option maxHeartbeats 1600000 in
theorem insert_room (B vb n c i g : Nat) (k x : Int) (xs : List Value) (cur : Array Value) (w : World) (hg : Blk w g 117 cur) (hsz : cur.size = c * 2) (hxs : cur.toList.take (n * 2) = xs) (h1 : ∀ u ∈ xs, u.oneCell' = true) (hc : c ≤ maxLen) (hBg : B ≤ g)
    (hv : Blk w vb 117 #[.int .u32 k, .int .i64 x]) (hne : vb ≠ g) (hi : i < n) (hroom : n + 1 ≤ c) :
    Calls Try.prog 52 #[.slice (some ⟨g, 0, none⟩) n c, .int .i64 i, .slice (some ⟨vb, 0, none⟩) 1 1] w fun e w' => ∃ v, e = .returned v ∧ w'.ownsRow B 117 2 v (n + 1) (xs.take (i * 2) ++ [.int .u32 k, .int .i64 x] ++ xs.drop (i * 2)) ∧ w.grownBy w' (some g) ∧
      (v.ownBlock = some g ∨ v.ownBlock = some w.heap.size) := by
  have hxl : xs.length = n * 2 := by rw [← hxs, List.length_take, Array.length_toList]; omega
  have hov : ∀ lb cb, (callFunc 66 #[.slice (some ⟨vb, 0, none⟩) 1 1, .slice (some ⟨g, (i + 1) * 2, none⟩) lb cb]).run Try.prog w = .ok (.value (.bool false)) w := fun lb cb => by
    rw [run_callFunc_extern Try.func66 (by kernel_rfl) (by kernel_rfl) (by kernel_rfl) (e := Extern.SlicesOverlaps.overlaps #[32, 32] #[4]) (by kernel_rfl),
      Lib.run_overlaps_apart w 32 4 117 Try.underlying32 2 Try.sizeOf90 ⟨vb, 0, none⟩ ⟨g, (i + 1) * 2, none⟩ 1 1 lb cb hne 117 117 2 cur.size (by simp [World.shape?, show w.heap[vb]? = _ from hv]) (by simp [World.shape?, show w.heap[g]? = _ from hg]) (by omega) (hv.frozen 0) (hv.frozen 2)]
    rfl
  have hdl : (xs.drop (i * 2)).length = (n - i) * 2 := by rw [List.length_drop, hxl]; omega
  have hcp1 : ∀ ty dc sc, (Builtin.copy_ #[32, 32] ty #[.slice (some ⟨g, (i + 1) * 2, none⟩) (n - i) dc, .slice (some ⟨g, i * 2, none⟩) (n + 1 - i) sc]).run Try.prog w.drew = .ok (goInt ((n - i : Nat) : Int)) (w.drew.setCells g ((i + 1) * 2) (xs.drop (i * 2))) := fun ty dc sc => by
    have := run_copy_n (P := Try.prog) w.drew 32 32 ty 117 2 g ((i + 1) * 2) (n - i) dc ⟨g, i * 2, none⟩ (n + 1 - i) sc cur (xs.drop (i * 2)) Try.underlying32 Try.size90 hg.drew (by rw [hdl]; simp only [Nat.min_def]; split <;> omega)
      (blk_src hg.drew _ _ (fun j v hj => by
        rw [List.getElem?_drop, ← hxs, List.getElem?_take] at hj
        split at hj
        · simpa using hj
        · cases hj)) (by rw [hdl, hsz]; omega) (fun v hv => h1 v (List.mem_of_mem_drop hv))
    rwa [show Nat.min (n + 1 - i) (n - i) = n - i by simp only [Nat.min_def]; split <;> omega] at this
  have hg2 := Blk.setCells (xs.drop (i * 2)) ((i + 1) * 2) hg.drew (by rw [hdl, hsz]; omega)
  have hv2 : Blk (w.drew.setCells g ((i + 1) * 2) (xs.drop (i * 2))) vb 117 #[.int .u32 k, .int .i64 x] := by
    have G := only_setCells (xs.drop (i * 2)) ((i + 1) * 2) (only_refl w.drew (some g))
    exact hv.drew.grown G (by simpa using hne)
  have hsz2 : (over cur ((i + 1) * 2) (xs.drop (i * 2))).size = c * 2 := by rw [over_size _ _ _ (by rw [hdl, hsz]; omega), hsz]
  have hcp2 : ∀ ty dc, (Builtin.copy_ #[32, 32] ty #[.slice (some ⟨g, i * 2, none⟩) (n + 1 - i) dc, .slice (some ⟨vb, 0, none⟩) 1 1]).run Try.prog (w.drew.setCells g ((i + 1) * 2) (xs.drop (i * 2))) = .ok (goInt 1) ((w.drew.setCells g ((i + 1) * 2) (xs.drop (i * 2))).setCells g (i * 2) [.int .u32 k, .int .i64 x]) := fun ty dc => by
    have := run_copy_n (P := Try.prog) (w.drew.setCells g ((i + 1) * 2) (xs.drop (i * 2))) 32 32 ty 117 2 g (i * 2) (n + 1 - i) dc ⟨vb, 0, none⟩ 1 1 _ [.int .u32 k, .int .i64 x] Try.underlying32 Try.size90 hg2 (by simp only [Nat.min_def]; split <;> simp <;> omega)
      (fun j u hu => by rw [add_none, hv2.cell, ← hu]; simp) (by rw [hsz2]; simp; omega) (pair_one k x)
    rwa [show Nat.min 1 (n + 1 - i) = 1 by simp only [Nat.min_def]; split <;> omega] at this
  have hg3 := Blk.setCells [.int .u32 k, .int .i64 x] (i * 2) hg2 (by rw [hsz2]; simp; omega)
  have HOWN := Lib.hid (own_of_blk (base := B) (n := n + 1) (c := c) (xs := xs.take (i * 2) ++ [.int .u32 k, .int .i64 x] ++ xs.drop (i * 2)) hg3 hBg hroom hc (by rw [over_size _ _ _ (by rw [hsz2]; simp; omega), hsz2]) (by
    rw [over_list, over_list, show (i + 1) * 2 = i * 2 + 2 by omega, show (n + 1) * 2 = n * 2 + 2 by omega]
    exact ins_over cur.toList xs [.int .u32 k, .int .i64 x] (i * 2) 2 (n * 2) hxs (by rw [Array.length_toList]; omega) (by omega) rfl))
  have HG := Lib.hid (only_setCells [.int .u32 k, .int .i64 x] (i * 2) (only_setCells (xs.drop (i * 2)) ((i + 1) * 2) (only_drew (only_refl w (some g)))))
  have HC1 := Lib.hid hcp1
  have HC2 := Lib.hid hcp2
  clear hxl hdl hcp1 hcp2 hg2 hv2 hsz2 hg3 hg hv hsz hxs h1
  unfold maxLen at hc
  go_enter Try.func52, Try.ntmps52
  go_wp2_with (simp only [hov])
  clear hov
  have hw1 : IntKind.i64.wrap ((i : Int) + 1) = (i : Int) + 1 := IntWalk.i64_in _ (by omega)
  have hb1 : (0 : Int) ≤ (i : Int) + 1 ∧ (i : Int) + 1 ≤ (n : Int) + 1 := by omega
  have hb2 : ((i : Int) + 1).toNat = i + 1 := by omega
  have hb3 : ¬ c = i + 1 := by omega
  have hb4 : ¬ c = i := by omega
  have hb5 : (0 : Int) ≤ (i : Int) ∧ (i : Int) ≤ (n : Int) + 1 := by omega
  have hb6 : n + 1 - (i + 1) = n - i := by omega
  go_region_law (refine step_copy_by rfl (.tmp 73) (.tmp 76) 32 32 rfl (.slice (some ⟨g, (i + 1) * 2, none⟩) (n - i) (c - (i + 1))) (.slice (some ⟨g, i * 2, none⟩) (n + 1 - i) (c - i)) (by simp [Act.eval, Act.put]) (by simp [Act.eval, Act.put]) (HC1.out 3 (c - (i + 1)) (c - i)) ?_)
  go_wp2_with (with_reducible refine wpList_copy_by _ rfl (.tmp 80) (.tmp 81) 32 32 rfl (.slice (some ⟨g, i * 2, none⟩) (n + 1 - i) (c - i)) (.slice (some ⟨vb, 0, none⟩) 1 1) rfl rfl (HC2.out 3 (c - i)) ?_)
  go_ret
  exact ⟨_, rfl, HOWN.out, HG.out, .inl rfl⟩
theorem zeroCells_size (zs : Array Value) (n : Nat) : (Builtin.zeroCells zs n).size = n * zs.size := by simp [Builtin.zeroCells]
set_option maxRecDepth 100000 in
set_option maxHeartbeats 1600000 in
theorem insert_grow (B vb n i g : Nat) (k x : Int) (xs : List Value) (cur : Array Value) (w : World) (hg : Blk w g 117 cur) (hsz : cur.size = n * 2) (hxs : cur.toList.take (n * 2) = xs) (h1 : ∀ u ∈ xs, u.oneCell' = true) (hn : n ≤ 1000000)
    (hv : Blk w vb 117 #[.int .u32 k, .int .i64 x]) (hi : i < n) (hBw : B ≤ w.heap.size) :
    Calls Try.prog 52 #[.slice (some ⟨g, 0, none⟩) n n, .int .i64 i, .slice (some ⟨vb, 0, none⟩) 1 1] w fun e w' => ∃ v, e = .returned v ∧ w'.ownsRow B 117 2 v (n + 1) (xs.take (i * 2) ++ [.int .u32 k, .int .i64 x] ++ xs.drop (i * 2)) ∧ w.grownBy w' (some g) ∧
      (v.ownBlock = some g ∨ v.ownBlock = some w.heap.size) := by
  obtain ⟨i0, hi0, hz0, hz1, hz2⟩ := info_parts Try.info117
  have hxl : xs.length = n * 2 := by rw [← hxs, List.length_take, Array.length_toList]; omega
  have hdl : (xs.drop (i * 2)).length = (n - i) * 2 := by rw [List.length_drop, hxl]; omega
  have hcur : ∀ j v, xs[j]? = some v → cur[j]? = some v := fun j v hj => by
    rw [← hxs, List.getElem?_take] at hj
    split at hj
    · simpa using hj
    · cases hj
  have hold : (Builtin.firstCells i0.size i (.slice (some ⟨g, 0, none⟩) i n)).run Try.prog w.drew = .ok (xs.take (i * 2)).toArray w.drew := by
    rw [hz1]
    refine run_firstCells_some w.drew 2 i ⟨g, 0, none⟩ i n (xs.take (i * 2)) (by rw [List.length_take, hxl]; omega) (fun j v hj => ?_)
    rw [add_none, Nat.zero_add, hg.drew.cell]
    rw [List.getElem?_take] at hj
    split at hj
    · exact hcur j v hj
    · cases hj
  have hik : i + (n + 1 - i) = n + 1 := by omega
  have hrz : ∀ ty, (Builtin.append_ #[32, 3] ty #[.slice (some ⟨g, 0, none⟩) i n, .int .i64 ((n + 1 - i : Nat) : Int)]).run Try.prog w =
      .ok (.slice (some ⟨w.heap.size, 0, none⟩) (n + 1) (grownCap w (n + 1) n 117)) (w.drew.alloc (.cells ((xs.take (i * 2)).toArray ++ Builtin.zeroCells #[.int .u32 0, .int .i64 0] (n + 1 - i) ++ Builtin.zeroCells #[.int .u32 0, .int .i64 0] (grownCap w (n + 1) n 117 - (n + 1))) 117)) := fun ty => by
    have h := Lib.run_append_grow_zeros w 32 3 ty 117 i0 (.agg #[.int .u32 0, .int .i64 0]) .i64 .i64 Try.underlying32 Try.underlying3 hi0 hz0 (some ⟨g, 0, none⟩) i n (xs.take (i * 2)) hold (n + 1 - i) (by omega) (by omega) (by omega) (by omega) (by rw [hz2]; omega) (by rw [hz2, hik]; exact growslice_fits (by omega) (by omega))
    rw [hik] at h
    exact h
  have hGn : n + 1 ≤ grownCap w (n + 1) n 117 := grownCap_ge w _ _ _
  have hG63 : grownCap w (n + 1) n 117 ≤ maxLen := grownCap_le_maxLen w (n + 1) n 117 (by unfold maxLen; omega)
  generalize grownCap w (n + 1) n 117 = G at *
  obtain ⟨ROW, hROW⟩ : ∃ ROW : Array Value, (xs.take (i * 2)).toArray ++ Builtin.zeroCells #[.int .u32 0, .int .i64 0] (n + 1 - i) ++ Builtin.zeroCells #[.int .u32 0, .int .i64 0] (G - (n + 1)) = ROW := ⟨_, rfl⟩
  rw [hROW] at hrz
  have hRs : ROW.size = G * 2 := by
    rw [← hROW]
    simp [zeroCells_size, hxl]
    omega
  have hRt : ROW.toList.take (i * 2) = xs.take (i * 2) := by
    rw [← hROW]
    simp only [Array.toList_append, List.append_assoc]
    rw [List.take_left' (by simp [hxl]; omega)]
  have hgw := hg.lt
  have hvw := hv.lt
  have hR0 : Blk (w.drew.alloc (.cells ROW 117)) w.heap.size 117 ROW := Blk.new w.drew 117 ROW
  have hg0 : Blk (w.drew.alloc (.cells ROW 117)) g 117 cur := hg.drew.alloc _
  have hv0 : Blk (w.drew.alloc (.cells ROW 117)) vb 117 #[.int .u32 k, .int .i64 x] := hv.drew.alloc _
  have hG0 : w.grownBy (w.drew.alloc (.cells ROW 117)) (some w.heap.size) := only_alloc (only_drew (only_refl w _)) _
  obtain ⟨w1, hw1⟩ : ∃ w1, w.drew.alloc (.cells ROW 117) = w1 := ⟨_, rfl⟩
  rw [hw1] at hrz hR0 hg0 hv0 hG0
  have hcp1 : ∀ ty dc, (Builtin.copy_ #[32, 32] ty #[.slice (some ⟨w.heap.size, i * 2, none⟩) (n + 1 - i) dc, .slice (some ⟨vb, 0, none⟩) 1 1]).run Try.prog w1 = .ok (goInt 1) (w1.setCells w.heap.size (i * 2) [.int .u32 k, .int .i64 x]) := fun ty dc => by
    have := run_copy_n (P := Try.prog) w1 32 32 ty 117 2 w.heap.size (i * 2) (n + 1 - i) dc ⟨vb, 0, none⟩ 1 1 _ [.int .u32 k, .int .i64 x] Try.underlying32 Try.size90 hR0 (by simp only [Nat.min_def]; split <;> simp <;> omega)
      (fun j u hu => by rw [add_none, hv0.cell, ← hu]; simp) (by rw [hRs]; simp; omega) (pair_one k x)
    rwa [show Nat.min 1 (n + 1 - i) = 1 by simp only [Nat.min_def]; split <;> omega] at this
  have hR1 := Blk.setCells [.int .u32 k, .int .i64 x] (i * 2) hR0 (by rw [hRs]; simp; omega)
  have hG1 := only_setCells [.int .u32 k, .int .i64 x] (i * 2) hG0
  have hg1 : Blk (w1.setCells w.heap.size (i * 2) [.int .u32 k, .int .i64 x]) g 117 cur := hg.grown hG1 (by simp; omega)
  have hsz1 : (over ROW (i * 2) [.int .u32 k, .int .i64 x]).size = G * 2 := by rw [over_size _ _ _ (by rw [hRs]; simp; omega), hRs]
  have hcp2 : ∀ ty dc sc, (Builtin.copy_ #[32, 32] ty #[.slice (some ⟨w.heap.size, (i + 1) * 2, none⟩) (n - i) dc, .slice (some ⟨g, i * 2, none⟩) (n - i) sc]).run Try.prog (w1.setCells w.heap.size (i * 2) [.int .u32 k, .int .i64 x]).drew =
      .ok (goInt ((n - i : Nat) : Int)) ((w1.setCells w.heap.size (i * 2) [.int .u32 k, .int .i64 x]).drew.setCells w.heap.size ((i + 1) * 2) (xs.drop (i * 2))) := fun ty dc sc => by
    have := run_copy_n (P := Try.prog) (w1.setCells w.heap.size (i * 2) [.int .u32 k, .int .i64 x]).drew 32 32 ty 117 2 w.heap.size ((i + 1) * 2) (n - i) dc ⟨g, i * 2, none⟩ (n - i) sc _ (xs.drop (i * 2)) Try.underlying32 Try.size90 hR1.drew (by rw [hdl]; simp)
      (blk_src hg1.drew _ _ (fun j v hj => by rw [List.getElem?_drop] at hj; exact hcur _ _ hj)) (by rw [hdl, hsz1]; omega) (fun v hv => h1 v (List.mem_of_mem_drop hv))
    rwa [show Nat.min (n - i) (n - i) = n - i by simp] at this
  have hR2 := Blk.setCells (xs.drop (i * 2)) ((i + 1) * 2) hR1.drew (by rw [hdl, hsz1]; omega)
  have HOWN := Lib.hid (own_of_blk (base := B) (n := n + 1) (c := G) (xs := xs.take (i * 2) ++ [.int .u32 k, .int .i64 x] ++ xs.drop (i * 2)) hR2 hBw hGn hG63 (by rw [over_size _ _ _ (by rw [hdl, hsz1]; omega), hsz1]) (by
    rw [over_list, over_list, show (i + 1) * 2 = i * 2 + 2 by omega, show (n + 1) * 2 = n * 2 + 2 by omega]
    exact ins_over2 ROW.toList xs [.int .u32 k, .int .i64 x] (i * 2) 2 (n * 2) hxl hRt (by rw [Array.length_toList]; omega) (by omega) rfl))
  have HG := Lib.hid (grown_fresh (only_setCells (xs.drop (i * 2)) ((i + 1) * 2) (only_drew hG1)) (Nat.le_refl _) (row := some g))
  have HC1 := Lib.hid hcp1
  have HC2 := Lib.hid hcp2
  have HRZ := Lib.hid hrz
  have hkk : (n : Int) + 1 - i = ((n + 1 - i : Nat) : Int) := by omega
  have HKK := Lib.hid hkk
  clear hxl hdl hcp1 hcp2 hcur hold hrz hROW hRs hRt hR0 hg0 hv0 hG0 hw1 hR1 hG1 hg1 hsz1 hR2 hg hv hsz hxs h1 hz0 hz1 hz2 hi0 hik hkk
  unfold maxLen at hG63
  have hlt3 : (n : Int) < (n : Int) + 1 := by omega
  go_enter Try.func52, Try.ntmps52
  go_wp2_with (first
    | (at_builtin; rw [HKK.out]; refine wpList_builtin_by _ rfl (.tmp 34) (.tmp 39) 32 3 rfl _ _ rfl rfl (HRZ.out _) ?_)
    | (with_reducible refine wpList_copy_by _ rfl (.tmp 43) (.tmp 44) 32 32 rfl (.slice (some ⟨w.heap.size, i * 2, none⟩) (n + 1 - i) (G - i)) (.slice (some ⟨vb, 0, none⟩) 1 1) rfl rfl (HC1.out 3 (G - i)) ?_))
  have hw2 : IntKind.i64.wrap ((i : Int) + 1) = (i : Int) + 1 := IntWalk.i64_in _ (by omega)
  have hb1 : (0 : Int) ≤ (i : Int) + 1 ∧ (i : Int) + 1 ≤ (n : Int) + 1 := by omega
  have hb2 : ((i : Int) + 1).toNat = i + 1 := by omega
  have hb3 : ¬ G = i + 1 := by omega
  have hb4 : ¬ n = i := by omega
  have hb5 : (0 : Int) ≤ (i : Int) ∧ (i : Int) ≤ (n : Int) := by omega
  have hb6 : n + 1 - (i + 1) = n - i := by omega
  clear hgw hvw
  go_region_law (refine step_copy_by rfl (.tmp 50) (.tmp 53) 32 32 rfl (.slice (some ⟨w.heap.size, (i + 1) * 2, none⟩) (n - i) (G - (i + 1))) (.slice (some ⟨g, i * 2, none⟩) (n - i) (n - i)) (by simp [Act.eval, Act.put]) (by simp [Act.eval, Act.put]) (HC2.out 3 (G - (i + 1)) (n - i)) ?_)
  go_wp2
  go_ret
  exact ⟨_, rfl, HOWN.out, HG.out, .inr rfl⟩
/-- One pair put in at a place. -/
theorem insert_any (B vb n c i : Nat) (k x : Int) (A : Option Addr) (xs : List Value) (w : World) (hown : w.ownsRow B 117 2 (.slice A n c) n xs) (h1 : ∀ u ∈ xs, u.oneCell' = true) (hv : Blk w vb 117 #[.int .u32 k, .int .i64 x]) (hne : some vb ≠ (Value.slice A n c).ownBlock)
    (hi : i ≤ n) (hn : n ≤ 1000000) (hB : B ≤ w.heap.size) :
    Calls Try.prog 52 #[.slice A n c, .int .i64 i, .slice (some ⟨vb, 0, none⟩) 1 1] w fun e w' => ∃ v, e = .returned v ∧ w'.ownsRow B 117 2 v (n + 1) (xs.take (i * 2) ++ [.int .u32 k, .int .i64 x] ++ xs.drop (i * 2)) ∧ w.grownBy w' (Value.slice A n c).ownBlock ∧
      (v.ownBlock = (Value.slice A n c).ownBlock ∨ v.ownBlock = some w.heap.size) := by
  by_cases he : i = n
  · subst he
    have hl : xs.length = i * 2 := hown.1
    rw [List.take_of_length_le (by omega), List.drop_eq_nil_of_le (by omega), List.append_nil]
    exact insert_end B vb i c k x A xs w hown hv hn hB
  · obtain ⟨g, cur, rfl, hb, hg, h2, h3, h4, h5⟩ := own_blk hown (by omega)
    have hob : (Value.slice (some ⟨g, 0, none⟩) n c).ownBlock = some g := rfl
    rw [hob] at hne ⊢
    by_cases hr : n + 1 ≤ c
    · exact insert_room B vb n c i g k x xs cur w hg h4 h5 h1 h3 hb hv (by simpa using hne) (by omega) hr
    · obtain rfl : n = c := by omega
      exact insert_grow B vb n i g k x xs cur w hg h4 h5 h1 hn hv (by omega) hB
end Go.Proofs.Ytbeeiecbbmiojaa.Lb
namespace Go.Proofs.Ytbeeiecbbmiojaa.Lb
open Go.RowKit Go.ChangeShapes Go.WideShapes Go.Shelf
theorem zero90 (w : World) : (zeroValue 117).run Try.prog w = .ok (.agg #[.int .u32 0, .int .i64 0]) w := by kernel_rfl
theorem zeros90 : (Builtin.zeroCells (Value.agg #[.int .u32 0, .int .i64 0]).cells 1).toList = [.int .u32 0, .int .i64 0] := by kernel_rfl
/-- What deleting the element at i (its cells from o on) leaves of the first N cells. -/
theorem delete_cells (L : List Value) (o k N : Nat) (z : List Value) (hz : z.length = k) (ho : o + k ≤ N) (hN : N ≤ L.length) :
    (over (over L.toArray o ((L.take N).drop (o + k))) (N - k) z).toList.take (N - k) = (L.take N).take o ++ (L.take N).drop (o + k) := by
  have hl : ((L.take N).drop (o + k)).length = N - (o + k) := by simp; omega
  rw [over_list, over_list]
  rw [List.take_append_of_le_length (by simp; omega), List.take_append_of_le_length (by simp; omega)]
  rw [List.take_take, Nat.min_self]
  rw [List.take_append_of_le_length (by simp; omega), List.take_of_length_le (by simp; omega), List.take_take, Nat.min_eq_left (by omega)]
set_option maxRecDepth 100000 in
set_option maxHeartbeats 1600000 in
theorem delete_any (B g c i n : Nat) (L : List Value) (w : World) (h : Blk w g 117 L.toArray) (hBg : B ≤ g) (hc : L.length = c * 2) (hc63 : c ≤ maxLen) (hi : i < n) (hn : n ≤ c) (h1 : ∀ u ∈ L.take (n * 2), u.oneCell' = true) :
    Calls Try.prog 51 #[.slice (some ⟨g, 0, none⟩) n c, .int .i64 i, .int .i64 ((i : Int) + 1)] w fun e w' => e = .returned (.slice (some ⟨g, 0, none⟩) (n - 1) c) ∧
      w'.ownsRow B 117 2 (.slice (some ⟨g, 0, none⟩) (n - 1) c) (n - 1) ((L.take (n * 2)).take (i * 2) ++ (L.take (n * 2)).drop ((i + 1) * 2)) ∧ w.grownBy w' (some g) := by
  obtain ⟨i0, hi0, hz0, hz1, hz2⟩ := info_parts Try.info117
  obtain ⟨news, hnews⟩ : ∃ news, news = (L.take (n * 2)).drop ((i + 1) * 2) := ⟨_, rfl⟩
  have hlen : news.length = (n - (i + 1)) * 2 := by rw [hnews]; simp; omega
  obtain ⟨A, hA, hsrc⟩ : ∃ A : Addr, (if c = i + 1 then some (⟨g, 0, none⟩ : Addr) else some ⟨g, (i + 1) * 2, none⟩) = some A ∧ Hid (∀ t u, news[t]? = some u → w.drew.cell? (A.add t) = some u) := by
    by_cases h' : c = i + 1
    · refine ⟨⟨g, 0, none⟩, by simp [h'], fun t u hu => ?_⟩
      have h0 : news.length = 0 := by rw [hlen]; omega
      rw [List.length_eq_zero_iff.1 h0] at hu
      simp at hu
    · refine ⟨⟨g, (i + 1) * 2, none⟩, by simp [h'], fun t u hu => ?_⟩
      have ht : t < (n - (i + 1)) * 2 := by
        have := (List.getElem?_eq_some_iff.1 hu).1
        rwa [hlen] at this
      rw [add_none]
      refine ((Blk.drew h).cell _).trans ?_
      rw [hnews, List.getElem?_drop, List.getElem?_take, if_pos (by omega)] at hu
      rw [← hu]; simp
  have s1 : Hid (news.length = (n - (i + 1)) * 2) := hlen
  have s2 : Hid (∀ u ∈ news, u.oneCell' = true) := fun u hu => by
    rw [hnews] at hu
    exact h1 u (List.mem_of_mem_drop hu)
  have s3 : Hid (∀ t, t < news.length → (w.drew.cell? ⟨g, 0 + i * 2 + t, none⟩).isSome = true ∧ w.drew.frozen? ⟨g, 0 + i * 2 + t, none⟩ = false) := fun t ht => by
    rw [hlen] at ht
    refine ⟨?_, (Blk.drew h).frozen _⟩
    rw [(Blk.drew h).cell]
    simp; omega
  obtain ⟨W1, hW1⟩ : ∃ W1, W1 = w.drew.setCells g (0 + i * 2) news := ⟨_, rfl⟩
  have hB1 : Blk W1 g 117 (over L.toArray (i * 2) news) := by
    rw [hW1, Nat.zero_add]
    exact Blk.setCells news (i * 2) (Blk.drew h) (by simp; omega)
  have hG1 : w.grownBy W1 (some g) := by rw [hW1]; exact only_setCells _ _ (only_drew (only_refl _ _))
  have hos : (over L.toArray (i * 2) news).size = c * 2 := by rw [over_size _ _ _ (by simp; omega)]; simpa using hc
  have hcl : ∀ ty, (Builtin.clear_ #[32] ty #[.slice (some ⟨g, (n - 1) * 2, none⟩) (n - (n - 1)) (c - (n - 1))]).run Try.prog W1 = .ok (.tuple #[]) (W1.setCells g ((n - 1) * 2) [.int .u32 0, .int .i64 0]) := fun ty => by
    rw [show n - (n - 1) = 1 by omega]
    have := run_clear_rows (P := Try.prog) W1 32 117 ty _ Try.underlying32 zero90 g ((n - 1) * 2) 1 (c - (n - 1)) (by rw [zeros90]; simp [Value.oneCell']) (by omega)
      (by rw [zeros90]; intro j hj; simp at hj; rw [hB1.cell]; simp; omega) (by rw [zeros90]; intro j _; exact hB1.frozen _)
    rwa [zeros90] at this
  have hB2 := hB1.setCells [.int .u32 0, .int .i64 0] ((n - 1) * 2) (by simp; omega)
  have HOWN := Lib.hid (own_of_blk (base := B) (n := n - 1) (c := c) (xs := (L.take (n * 2)).take (i * 2) ++ (L.take (n * 2)).drop ((i + 1) * 2)) hB2 hBg (by omega) hc63 (by rw [over_size _ _ _ (by rw [hos]; simp; omega), hos]) (by
    rw [hnews, show (i + 1) * 2 = i * 2 + 2 by omega, show (n - 1) * 2 = n * 2 - 2 by omega]
    exact delete_cells L (i * 2) 2 (n * 2) _ rfl (by omega) (by omega)))
  have hG2 := Lib.hid (only_setCells [.int .u32 0, .int .i64 0] ((n - 1) * 2) hG1)
  have hW : Hid (W1 = w.drew.setCells g (0 + i * 2) news) := hW1
  have hic : i ≤ c := by omega
  have hjc : i + 1 ≤ c := by omega
  have he : ¬ ((i : Int) = (i : Int) + 1) := by omega
  have hnn : i + (n - (i + 1)) = n - 1 := by omega
  have hb1 : (0 : Int) ≤ (i : Int) + 1 ∧ (i : Int) + 1 ≤ (n : Int) := by omega
  clear hW1 hB1 hG1 hnews hlen h hos hB2 h1
  unfold maxLen at hc63
  go_enter Try.func51, Try.ntmps51
  go_wp2_with fail
  go_region_law (refine step_append_room rfl (.tmp 22) (.tmp 25) 32 rfl 117 i0 2 Try.underlying32 hi0 hz1 g 0 i c (by simp [Act.eval, Act.put]) A (n - (i + 1)) (c - (i + 1)) news (by simp [Act.eval, Act.put]) s1.out hsrc.out s2.out (by omega) s3.out ?_; rw [← hW.out])
  go_wp2
  go_ret
  exact ⟨rfl, HOWN.out, hG2.out⟩
set_option maxHeartbeats 400000 in
theorem clone_any (A : Option Addr) (c : Nat) (l : List (Int × Int)) (B : Nat) (w : World) (h : PairsAt w B A l) (hB : B ≤ w.heap.size) (hm : l.length ≤ 1000000) :
    Calls Try.prog 49 #[.slice A l.length c] w fun e w' => ∃ v, e = .returned v ∧ w'.ownsRow w.heap.size 117 2 v l.length (pcells l) ∧ Below w.heap.size w w' := by
  obtain ⟨i0, hi, hz0, hz1, hz2⟩ := info_parts Try.info117
  have qT : ∀ (w : World) (a : Option Addr) (n c n' c' : Nat), (binOp .eql 32 (.slice a n c) (.slice none n' c')).run Try.prog w = .ok (.bool a.isNone) w := fun w a n c n' c' => Lib.run_eql_slice_nil w _ _ a n c n' c' Try.underlying32
  have hr := pairs_reads h
  cases A with
  | none =>
    have hl : l = [] := by
      rcases Nat.eq_zero_or_pos l.length with h0 | h0
      · exact List.eq_nil_of_length_eq_zero h0
      · obtain ⟨_, _, e, _⟩ := h h0
        cases e
    subst hl
    go_enter Try.func49, Try.ntmps49
    go_wp2
    go_ret
    exact ⟨_, rfl, World.ownsRow_nil _ _ _ _, Below.refl _ _⟩
  | some ad =>
    have hr2 := Lib.hid (hr.alloc hB (.cells #[] 117))
    have ho : (w.alloc (.cells #[] 117)).ownsRow w.heap.size 117 2 (.slice (some ⟨w.heap.size, 0, none⟩) 0 0) 0 [] :=
      ⟨rfl, .inr ⟨w.heap.size, 0, #[], rfl, Nat.le_refl _, Blk.new w 117 _, Nat.le_refl _, Nat.zero_le _, rfl, rfl⟩⟩
    clear h hr
    go_enter Try.func49, Try.ntmps49
    go_wp2_with (at_builtin; refine wpList_append_any _ rfl _ _ 32 rfl w.heap.size 117 i0 _ 2 16 Try.underlying32 hi hz0 hz1 hz2 rfl (by decide) _ 0 [] rfl ho B (some ad) l.length c (pcells l) rfl hr2.out (pcells_one l) (by unfold maxLen; omega) (by omega) (by simp) ?_; intro v1 w1 hown1 hg1 _)
    go_ret
    exact ⟨_, rfl, by simpa using hown1, ((Below.refl _ _).alloc (Nat.le_refl _) _).grown hg1 (by simp) (fun k hk => by injection hk with hk; exact Nat.le_of_eq hk)⟩
end Go.Proofs.Ytbeeiecbbmiojaa.Lb
namespace Go.Proofs.Ytbeeiecbbmiojaa.Lb
open Go.RowKit Go.ChangeShapes Go.WideShapes Go.Shelf
theorem atP_skip (d c : Int) : ∀ (l r : List (Int × Int)), (∀ p ∈ l, p.1 < c) → atP d (l ++ r) c = atP d r c
  | [], _, _ => rfl
  | p :: t, r, h => by
    have h0 := h p (by simp)
    rw [List.cons_append, atP, if_neg (by omega)]
    exact atP_skip d c t r (fun q hq => h q (by simp [hq]))
theorem withP_skip (d c v : Int) : ∀ (l r : List (Int × Int)), (∀ p ∈ l, p.1 < c) → withP d c v (l ++ r) = l ++ withP d c v r
  | [], _, _ => rfl
  | p :: t, r, h => by
    rw [List.cons_append, withP, if_pos (h p (by simp)), withP_skip d c v t r (fun q hq => h q (by simp [hq]))]; rfl
theorem low_take {ps : List (Int × Int)} {c : Int} {i : Nat} (h : IsLow ps c i) : ∀ p ∈ ps.take i, p.1 < c := fun p hp => by
  obtain ⟨t, ht, rfl⟩ := List.getElem_of_mem hp
  simp at ht
  rw [List.getElem_take]
  exact h.2.1 t (by omega) (by omega)
theorem with_low (d v : Int) {ps : List (Int × Int)} {c : Int} {i : Nat} (h : IsLow ps c i) :
    (∀ (hi : i < ps.length), ps[i].1 = c → withP d c v ps = if v = d then ps.take i ++ ps.drop (i + 1) else ps.take i ++ (c, v) :: ps.drop (i + 1)) ∧
    (¬ (∃ hi : i < ps.length, ps[i].1 = c) → withP d c v ps = if v = d then ps else ps.take i ++ (c, v) :: ps.drop i) := by
  have hs := withP_skip d c v (ps.take i) (ps.drop i) (low_take h)
  rw [List.take_append_drop] at hs
  refine ⟨fun hi e => ?_, fun hn => ?_⟩
  · rw [hs, List.drop_eq_getElem_cons hi, withP, if_neg (by omega), if_pos e]
    split <;> rfl
  · by_cases hi : i < ps.length
    · have h2 := h.2.2 i hi (Nat.le_refl _)
      rw [hs, List.drop_eq_getElem_cons hi, withP, if_neg (by omega), if_neg (fun e => hn ⟨hi, e⟩), ← List.drop_eq_getElem_cons hi]
      split
      · exact List.take_append_drop _ _
      · rfl
    · rw [hs, List.drop_eq_nil_of_le (by omega), withP]
      split
      · rw [List.append_nil, List.take_of_length_le (by omega)]
      · rfl
/-- Behind the first region of label.With: the label that is being made. -/
def With1 (w : World) (g3 g6 : Nat) (l : Lab) (v : Value) (W : World) : Prop :=
  ∃ (go c : Nat) (A : Option Addr), v = .pointer (some ⟨go, 0, none⟩) ∧ Blk W go 34 #[.int .i64 l.d, .slice A l.ps.length c] ∧ W.ownsRow w.heap.size 117 2 (.slice A l.ps.length c) l.ps.length (pcells l.ps) ∧
    (∃ A' c', Blk W g3 34 #[.int .i64 l.d, .slice A' l.ps.length c']) ∧ Blk W g6 34 #[.int .i64 0, .slice none 0 0] ∧ Below w.heap.size w W ∧ w.heap.size ≤ go ∧ go ≠ g3 ∧ go ≠ g6
theorem own_below {w w' : World} {B n size : Nat} {e : TypeId} {v : Value} {xs : List Value} (h : w.ownsRow B e size v n xs) (hb : Below w.heap.size w w') : w'.ownsRow B e size v n xs := by
  refine ⟨h.1, ?_⟩
  rcases h.2 with h1 | ⟨g', cap, cur, h0, h1, h2, h3⟩
  · exact .inl h1
  · exact .inr ⟨g', cap, cur, h0, h1, Blk.below (g := g') h2 hb (Blk.lt (g := g') h2), h3⟩
theorem pcells_append (a b : List (Int × Int)) : pcells (a ++ b) = pcells a ++ pcells b := by simp [pcells]
theorem pcells_take : ∀ (l : List (Int × Int)) (i : Nat), (pcells l).take (i * 2) = pcells (l.take i)
  | [], i => by simp [pcells]
  | p :: t, 0 => by simp [pcells]
  | p :: t, i + 1 => by
    have := pcells_take t i
    have e : pcells (p :: t) = .int .u32 p.1 :: .int .i64 p.2 :: pcells t := by simp [pcells]
    rw [e, show (i + 1) * 2 = i * 2 + 1 + 1 by omega, List.take_succ_cons, List.take_succ_cons, this]
    simp [pcells]
theorem pcells_drop : ∀ (l : List (Int × Int)) (i : Nat), (pcells l).drop (i * 2) = pcells (l.drop i)
  | [], i => by simp [pcells]
  | p :: t, 0 => by simp
  | p :: t, i + 1 => by
    have := pcells_drop t i
    have e : pcells (p :: t) = .int .u32 p.1 :: .int .i64 p.2 :: pcells t := by simp [pcells]
    rw [e, show (i + 1) * 2 = i * 2 + 1 + 1 by omega, List.drop_succ_cons, List.drop_succ_cons, this]
    simp
theorem pcells_set (l : List (Int × Int)) (i : Nat) (hi : i < l.length) (v : Int) : (pcells l).set (i * 2 + 1) (.int .i64 v) = pcells (l.take i ++ (l[i].1, v) :: l.drop (i + 1)) := by
  have e : l = l.take i ++ l[i] :: l.drop (i + 1) := by rw [← List.drop_eq_getElem_cons hi, List.take_append_drop]
  have e2 : pcells l = pcells (l.take i) ++ (.int .u32 l[i].1 :: .int .i64 l[i].2 :: pcells (l.drop (i + 1))) := by
    conv => lhs; rw [e]
    rw [pcells_append]
    rfl
  have hl : (pcells (l.take i)).length = i * 2 := by rw [pcells_length]; simp; omega
  rw [e2, List.set_append_right _ _ (by omega), hl, show i * 2 + 1 - i * 2 = 1 by omega, pcells_append]
  simp [pcells]
/-- Behind the switch of label.With. -/
def With2 (w : World) (go g6 : Nat) (r : Lab) (W : World) : Prop :=
  ∃ (A : Option Addr) (c : Nat), Blk W go 34 #[.int .i64 r.d, .slice A r.ps.length c] ∧ PairsAt W W.heap.size A r.ps ∧ r.ps.length ≤ c ∧ Blk W g6 34 #[.int .i64 0, .slice none 0 0] ∧ Below w.heap.size w W
/-- A row stored into the label's variable. -/
theorem with2_store {w W : World} {go g6 n c n0 c0 : Nat} {A A0 : Option Addr} {r : Lab} (kg : Blk W go 34 #[.int .i64 r.d, .slice A0 n0 c0]) (ho : W.ownsRow w.heap.size 117 2 (.slice A n c) n (pcells r.ps)) (hn : n = r.ps.length) (k6 : Blk W g6 34 #[.int .i64 0, .slice none 0 0]) (hb : Below w.heap.size w W) (hgo : w.heap.size ≤ go) (hne : go ≠ g6) :
    With2 w go g6 r (W.setCell ⟨go, 1, none⟩ (.slice A n c)) := by
  subst hn
  have h := own_set ho kg (by decide) (i := 1) (.slice A r.ps.length c)
  exact ⟨A, c, kg.set_ 1 _, own_pairs h, own_cap h, k6.far (by show g6 ≠ go; omega) _, hb.setCell (p := ⟨go, 1, none⟩) hgo _⟩
theorem with1_a {w w1 W : World} {l : Lab} {A A2 : Option Addr} {cp c2 : Nat} (hB : Below w.heap.size w w1) (k3 : Blk w1 w.heap.size 34 #[.int .i64 l.d, .slice A l.ps.length cp]) (k6 : Blk w1 (w.heap.size + 1) 34 #[.int .i64 0, .slice none 0 0])
    (b2 : Below w1.drew.heap.size w1.drew W) (o2 : W.ownsRow w1.drew.heap.size 117 2 (.slice A2 l.ps.length c2) l.ps.length (pcells l.ps)) :
    With1 w w.heap.size (w.heap.size + 1) l (.pointer (some ⟨W.heap.size, 0, none⟩)) (W.alloc (.cells #[.int .i64 l.d, .slice A2 l.ps.length c2] 34)) := by
  have j3 := k3.drew.below b2 k3.lt
  have j6 := k6.drew.below b2 k6.lt
  have h1 := j3.lt
  have h2 := j6.lt
  have hs : w.heap.size ≤ w1.drew.heap.size := hB.size
  refine ⟨W.heap.size, c2, A2, rfl, Blk.new W 34 _, (own_mono o2 hs).alloc _, ⟨A, cp, j3.alloc _⟩, j6.alloc _, ((below_drewN hB 1).trans (b2.mono hs)).alloc (Nat.le_trans hs b2.size) _, by omega, by omega, by omega⟩
theorem with1_b {w w1 W : World} {l : Lab} {A A2 : Option Addr} {cp c2 : Nat} (hB : Below w.heap.size w w1) (k3 : Blk w1 w.heap.size 34 #[.int .i64 l.d, .slice A l.ps.length cp]) (k6 : Blk w1 (w.heap.size + 1) 34 #[.int .i64 0, .slice none 0 0])
    (b2 : Below (w1.alloc (.cells #[.int .i64 0, .slice none 0 0] 34)).drew.heap.size (w1.alloc (.cells #[.int .i64 0, .slice none 0 0] 34)).drew W) (o2 : W.ownsRow (w1.alloc (.cells #[.int .i64 0, .slice none 0 0] 34)).drew.heap.size 117 2 (.slice A2 l.ps.length c2) l.ps.length (pcells l.ps)) :
    With1 w w.heap.size (w.heap.size + 1) l (.pointer (some ⟨w1.heap.size, 0, none⟩)) ((W.setCell ⟨w1.heap.size, 0, none⟩ (.int .i64 l.d)).setCell ⟨w1.heap.size, 1, none⟩ (.slice A2 l.ps.length c2)) := by
  have j3 := (k3.alloc (.cells #[.int .i64 0, .slice none 0 0] 34)).drew.below b2 (k3.alloc _).lt
  have j6 := (k6.alloc (.cells #[.int .i64 0, .slice none 0 0] 34)).drew.below b2 (k6.alloc _).lt
  have j7 := (Blk.new w1 34 #[.int .i64 0, .slice none 0 0]).drew.below b2 (Blk.new w1 34 #[.int .i64 0, .slice none 0 0]).lt
  have h1 := k3.lt
  have h2 := k6.lt
  have hs : w.heap.size ≤ (w1.alloc (.cells #[.int .i64 0, .slice none 0 0] 34)).drew.heap.size := by show _ ≤ (w1.alloc _).heap.size; simp; have := hB.size; omega
  have hB2 : Below w.heap.size w W := (below_drewN (hB.alloc hB.size (.cells #[.int .i64 0, .slice none 0 0] 34)) 1).trans (b2.mono hs)
  have i7 : Blk (W.setCell ⟨w1.heap.size, 0, none⟩ (.int .i64 l.d)) w1.heap.size 34 #[.int .i64 l.d, .slice none 0 0] := j7.set_ 0 _
  refine ⟨w1.heap.size, c2, A2, rfl, i7.set_ 1 _, own_set (own_set (own_mono o2 hs) j7 (by decide) _) i7 (by decide) _, ⟨A, cp, (j3.far (by show w.heap.size ≠ w1.heap.size; omega) _).far (by show w.heap.size ≠ w1.heap.size; omega) _⟩, (j6.far (by show w.heap.size + 1 ≠ w1.heap.size; omega) _).far (by show w.heap.size + 1 ≠ w1.heap.size; omega) _,
    (hB2.setCell (p := ⟨w1.heap.size, 0, none⟩) hB.size _).setCell (p := ⟨w1.heap.size, 1, none⟩) hB.size _, by omega, by omega, by omega⟩
set_option maxRecDepth 100000 in
set_option maxHeartbeats 1600000 in
theorem with_any (va : Value) (l : Lab) (c v : Int) (w : World) (h : LabV w w.heap.size va l) (hl : l.ps.length ≤ 100000) (hg : Good l) :
    Calls Try.prog 29 #[va, .int .u32 c, .int .i64 v] w fun e w' => ∃ x, e = .returned x ∧ LabV w' w'.heap.size x (withL l c v) ∧ Below w.heap.size w w' := by
  obtain ⟨A, cp, rfl, hp, hcp⟩ := h
  have b0 := (Below.refl w.heap.size w).alloc (Nat.le_refl _) (.cells #[.int .i64 l.d, .slice A l.ps.length cp] 34)
  have s0 : (w.alloc (.cells #[.int .i64 l.d, .slice A l.ps.length cp] 34)).heap.size = w.heap.size + 1 := by simp
  have k3 := (Blk.new w 34 #[.int .i64 l.d, .slice A l.ps.length cp]).alloc (.cells #[.int .i64 0, .slice none 0 0] 34)
  have k6 := Blk.new (w.alloc (.cells #[.int .i64 l.d, .slice A l.ps.length cp] 34)) 34 #[.int .i64 0, .slice none 0 0]
  have b1 := b0.alloc b0.size (.cells #[.int .i64 0, .slice none 0 0] 34)
  rw [s0] at k6
  have hp1 := hp.below b1
  go_enter Try.func29, Try.ntmps29
  go_upto_region 1 with fail
  generalize (w.alloc (.cells #[.int .i64 l.d, .slice A l.ps.length cp] 34)).alloc (.cells #[.int .i64 0, .slice none 0 0] 34) = w1 at *
  clear s0 b0 hp
  go_cut [7] from 10 to 16 (fun v wx => With1 w w.heap.size (w.heap.size + 1) l v wx)
  case first =>
    have e0 := k3.cell 0
    have e1 := k3.cell 1
    simp at e0 e1
    have l3 := k3.lt
    have HP := Lib.hid hp1
    have K3 := Lib.hid k3
    have K6 := Lib.hid k6
    have HB := Lib.hid b1
    have HS : Hid (w.heap.size ≤ w1.heap.size) := b1.size
    have C1 := Lib.hid (clone_any A cp l.ps w.heap.size w1.drew (HP.out.keep (fun _ _ => rfl)) b1.size (by omega))
    have C2 := Lib.hid (clone_any A cp l.ps w.heap.size ((w1.alloc (.cells #[.int .i64 0, .slice none 0 0] 34)).drew) ((HP.out.alloc b1.size (.cells #[.int .i64 0, .slice none 0 0] 34)).keep (fun _ _ => rfl)) (by simp; have := b1.size; omega) (by omega))
    have n1 : ¬ (w1.heap.size = w.heap.size) := by omega
    have n2 : ¬ (w.heap.size = w1.heap.size) := by omega
    have n3 := World.new_ne w1 _ e0
    have n4 := World.new_ne w1 _ e1
    clear hp1 k3 k6 b1 l3
    go_region_held3 (fun w' => w'.cell? ⟨w.heap.size, 0, none⟩ = some (.int .i64 l.d) ∧ w'.cell? ⟨w.heap.size, 1, none⟩ = some (.slice A l.ps.length cp))
      (go_keep)
      (first
        | (go_at_call 49; refine C1.out.mono ?_; rintro e W ⟨v2, rfl, o2, b2⟩; obtain ⟨A2, c2, rfl⟩ := own_slice o2; have q3 := K3.out.drew.below b2 K3.out.lt; have q0 := q3.cell 0; have q1 := q3.cell 1; simp at q0 q1)
        | (go_at_call 49; refine C2.out.mono ?_; rintro e W ⟨v2, rfl, o2, b2⟩; obtain ⟨A2, c2, rfl⟩ := own_slice o2; have q3 := (K3.out.alloc (.cells #[.int .i64 0, .slice none 0 0] 34)).drew.below b2 (K3.out.alloc _).lt; have q7 := (Blk.new w1 34 #[.int .i64 0, .slice none 0 0]).drew.below b2 (Blk.new w1 34 #[.int .i64 0, .slice none 0 0]).lt; have q0 := q3.cell 0; have q1 := q3.cell 1; have q70 := q7.cell 0; have q71 := q7.cell 1; have f70 := q7.frozen 0; have f71 := q7.frozen 1; simp at q0 q1 q70 q71))
    · have HW := Lib.hid (with1_a HB.out K3.out K6.out b2 o2)
      go_wp2_with fail
      go_meet
      exact HW.out
    · have HW := Lib.hid (with1_b HB.out K3.out K6.out b2 o2)
      go_wp2_with fail
      go_meet
      exact HW.out
  case rest =>
    clear k3 k6 b1 hp1
    obtain ⟨go, c7, A7, rfl, kgo, own, ⟨A', c', kg3⟩, kg6, hb, hgo, hne3, hne6⟩ := hcut
    have e0 := kgo.cell 0
    have e1 := kgo.cell 1
    simp at e0 e1
    have hcap := own_cap own
    have HV := Lib.hid (show LabV wc wc.heap.size (.agg #[.int .i64 l.d, .slice A7 l.ps.length c7]) l from ⟨A7, c7, rfl, own_pairs own, hcap⟩)
    have HO := Lib.hid own
    have HG := Lib.hid kgo
    have H3 := Lib.hid kg3
    have H6 := Lib.hid kg6
    have HB := Lib.hid hb
    have hbs := hb.size
    clear own kgo kg3 kg6 hb hcap
    go_wp2_with fail
    refine (find_any _ l c _ HV.out hl hg).mono ?_
    rintro e w2 ⟨i, hi, rfl, hb2⟩
    have j3 := H3.out.below hb2 H3.out.lt
    have j6 := H6.out.below hb2 H6.out.lt
    have jg := HG.out.below hb2 HG.out.lt
    have jo := own_below HO.out hb2
    have jb := HB.out.trans (hb2.mono hbs)
    have hlow := Lib.hid hi
    clear H3 H6 HG HO HB HV hb2 hi e0 e1 hbs
    obtain ⟨fb, hfb⟩ : ∃ fb, decide (∃ h : i < l.ps.length, l.ps[i].1 = c) = fb := ⟨_, rfl⟩
    rw [hfb]
    have HFB := Lib.hid hfb
    clear hfb
    go_upto_block 0 with fail
    go_cut [8] from 43 to 58 (fun _ wx => With2 w go (w.heap.size + 1) (withL l c v) wx)
    case first =>
      have q0 := j3.cell 0
      have g0 := jg.cell 0
      have g1 := jg.cell 1
      have fg1 := jg.frozen 1
      simp at q0 g0 g1
      obtain ⟨w1x, w2x⟩ := with_low l.d v hlow.out
      cases fb with
      | true =>
        obtain ⟨hi2, he⟩ : ∃ h : i < l.ps.length, l.ps[i].1 = c := by simpa using HFB.out
        have hw := w1x hi2 he
        clear w1x w2x HFB
        obtain ⟨g, cur, rfl, hBg, hgb, h2, h3, h4, h5⟩ := own_blk jo (by omega)
        have HG := Lib.hid jg
        have H6 := Lib.hid j6
        have HB := Lib.hid jb
        have HJ := Lib.hid jo
        have H5 := Lib.hid h5
        by_cases hv : v = l.d
        · rw [if_pos hv] at hw
          have hvb : (v == l.d) = true := by simpa using hv
          have HW := Lib.hid hw
          have HD := Lib.hid (delete_any w.heap.size g c7 i l.ps.length cur.toList w2 hgb hBg (by simp; omega) h3 hi2 h2 (by rw [h5]; exact pcells_one _))
          clear hw hv jg j6 jb jo h5 hgb j3 h4 he
          go_wp2_with fail
          refine HD.out.mono ?_
          rintro e w3 ⟨rfl, o3, G3⟩
          have kg3 := HG.out.grown G3 (own_ne HJ.out HG.out (by decide))
          have k63 := H6.out.grown G3 (own_ne HJ.out H6.out (by decide))
          have hb3 := below_of_only HB.out G3 hBg HB.out.size
          rw [H5.out, pcells_take, pcells_drop, ← pcells_append, ← HW.out] at o3
          have e1 := kg3.cell 1
          have f1 := kg3.frozen 1
          simp at e1
          have H2 := Lib.hid (with2_store (r := withL l c v) kg3 o3 (by show _ = (withP l.d c v l.ps).length; rw [HW.out]; simp; omega) k63 hb3 hgo hne6)
          clear kg3 k63 hb3 o3 G3 HD HG H6 HJ HB q0 g0 g1 fg1
          go_wp2_with fail
          go_meet
          exact H2.out
        · rw [if_neg hv] at hw
          have hvb : (v == l.d) = false := by simpa using hv
          have hcell : w2.cell? ⟨g, i * 2 + 1, none⟩ = some (.int .i64 l.ps[i].2) := by
            rw [hgb.cell]
            have := (pcells_at l.ps i hi2).2
            rw [← h5, List.getElem?_take, if_pos (by omega)] at this
            simpa using this
          have hfr := hgb.frozen (i * 2 + 1)
          have hgne : g ≠ go := Blk.ne_ hgb jg (by decide)
          have hg6 : g ≠ w.heap.size + 1 := Blk.ne_ hgb j6 (by decide)
          have kgn : Blk (w2.setCell ⟨g, i * 2 + 1, none⟩ (.int .i64 v)) go 34 #[.int .i64 l.d, .slice (some ⟨g, 0, none⟩) l.ps.length c7] := jg.far (by show go ≠ g; exact Ne.symm hgne) _
          have k6n : Blk (w2.setCell ⟨g, i * 2 + 1, none⟩ (.int .i64 v)) (w.heap.size + 1) 34 #[.int .i64 0, .slice none 0 0] := j6.far (by show w.heap.size + 1 ≠ g; exact Ne.symm hg6) _
          have hon : (w2.setCell ⟨g, i * 2 + 1, none⟩ (.int .i64 v)).ownsRow w.heap.size 117 2 (.slice (some ⟨g, 0, none⟩) l.ps.length c7) l.ps.length (pcells (withL l c v).ps) := by
            refine own_of_blk (hgb.set_ _ _) hBg h2 h3 (by simpa using h4) ?_
            show _ = pcells (withP l.d c v l.ps)
            rw [hw, ← he, ← pcells_set l.ps i hi2, ← h5]
            simp [List.take_set]
          have hlw : (withL l c v).ps.length = l.ps.length := by show (withP l.d c v l.ps).length = _; rw [hw]; simp; omega
          have H2 : Hid (With2 w go (w.heap.size + 1) (withL l c v) (w2.setCell ⟨g, i * 2 + 1, none⟩ (.int .i64 v))) :=
            ⟨some ⟨g, 0, none⟩, c7, by rw [hlw]; exact kgn, own_pairs (by rw [hlw]; exact hon), by rw [hlw]; exact h2, k6n, jb.setCell (p := ⟨g, i * 2 + 1, none⟩) hBg _⟩
          clear hw hv jg j6 jb jo h5 hgb j3 h4 he kgn k6n hon hlw HG H6 HB HJ H5
          go_wp2_with fail
          go_meet
          exact H2.out
      | false =>
        have hf : ¬ ∃ h : i < l.ps.length, l.ps[i].1 = c := by simpa using HFB.out
        have hw := w2x hf
        clear w1x w2x HFB hf
        by_cases hv : v = l.d
        · rw [if_pos hv] at hw
          have hvb : (v == l.d) = true := by simpa using hv
          have e : withL l c v = l := Lab.eq_of rfl hw
          have H2 : Hid (With2 w go (w.heap.size + 1) (withL l c v) w2) := by
            rw [e]
            exact ⟨A7, c7, jg, own_pairs jo, own_cap jo, j6, jb⟩
          clear hw hv jg j6 jb jo j3 e
          go_wp2_with fail
          go_meet
          exact H2.out
        · rw [if_neg hv] at hw
          have hvb : (v == l.d) = false := by simpa using hv
          have HW := Lib.hid hw
          have hos : some w2.heap.size ≠ (Value.slice A7 l.ps.length c7).ownBlock := fun e => by
            obtain ⟨_, cs, hb⟩ := own_row_blk jo e.symm
            have := hb.lt
            omega
          have hjo : ∀ b, (Value.slice A7 l.ps.length c7).ownBlock = some b → w.heap.size ≤ b := fun b hb => (own_row_blk jo hb).1
          have HJO := Lib.hid hjo
          have HI := Lib.hid (insert_any w.heap.size w2.heap.size l.ps.length c7 i c v A7 (pcells l.ps) (w2.alloc (.cells #[.int .u32 c, .int .i64 v] 117)) (jo.alloc _) (pcells_one _) (Blk.new w2 117 _) hos hlow.out.1 (by omega) (by simp; have := jb.size; omega))
          have HG := Lib.hid (jg.alloc (.cells #[.int .u32 c, .int .i64 v] 117))
          have H6 := Lib.hid (j6.alloc (.cells #[.int .u32 c, .int .i64 v] 117))
          have HB := Lib.hid (jb.alloc jb.size (.cells #[.int .u32 c, .int .i64 v] 117))
          have HJ := Lib.hid (jo.alloc (.cells #[.int .u32 c, .int .i64 v] 117))
          clear hw hv jg j6 jb jo j3 hos hjo
          go_wp2_with fail
          refine HI.out.mono ?_
          rintro e w3 ⟨x, rfl, o3, G3, a3⟩
          obtain ⟨A9, c9, rfl⟩ := own_slice o3
          have kg3 := HG.out.grown G3 (own_ne HJ.out HG.out (by decide))
          have k63 := H6.out.grown G3 (own_ne HJ.out H6.out (by decide))
          have hb3 := HB.out.grown G3 HB.out.size (fun b hb => HJO.out b hb)
          have e3 : (pcells l.ps).take (i * 2) ++ [.int .u32 c, .int .i64 v] ++ (pcells l.ps).drop (i * 2) = pcells (l.ps.take i ++ (c, v) :: l.ps.drop i) := by
            rw [pcells_take, pcells_drop, pcells_append]; simp [pcells]
          rw [e3, ← HW.out] at o3
          have e1 := kg3.cell 1
          have f1 := kg3.frozen 1
          simp at e1
          have H2 := Lib.hid (with2_store (r := withL l c v) kg3 o3 (by show _ = (withP l.d c v l.ps).length; rw [HW.out]; simp; have := hlow.out.1; omega) k63 hb3 hgo hne6)
          clear kg3 k63 hb3 o3 G3 HI HG H6 HJ HB q0 g0 g1 fg1 a3 e3
          go_wp2_with fail
          go_meet
          exact H2.out
    case rest =>
      clear jg j6 jb jo j3
      obtain ⟨A9, c9, kg, hp, hc9, k6, hb⟩ := hcut
      have hS := stored_of (w := w) (l := withL l c v) k6 hp hc9 hb (by omega)
      have HS := Lib.hid hS
      have e0 := kg.cell 0
      have e1 := kg.cell 1
      have e2 := k6.cell 0
      have e3 := k6.cell 1
      have f2 := k6.frozen 0
      have f3 := k6.frozen 1
      simp at e0 e1 e2 e3
      clear hS kg k6 hp hb hc9
      go_wp2
      refine bodyPost_ret (results_cell_row rfl _ _ (w.heap.size + 1) 34 #[.int .i64 (withL l c v).d, .slice A9 (withL l c v).ps.length c9] (0, 0) _ (by rfl) HS.out.blk Try.underlying34 rfl (by kernel_rfl)) rfl ?_
      exact ⟨_, rfl, HS.out.lab, HS.out.bl⟩
end Go.Proofs.Ytbeeiecbbmiojaa.Lb
