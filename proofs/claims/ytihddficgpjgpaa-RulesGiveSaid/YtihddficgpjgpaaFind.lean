/- Where a category's pair is, or would be. -/
import Derived.Test.YtihddficgpjgpaaLw
namespace Go.Proofs.Ytihddficgpjgpaa
open Go.RowKit Go.ChangeShapes Go.WideShapes Go.Shelf

theorem cmp_lt (cat lev c : Int) (w : World) (h : cat < c) : Calls Try.prog 122 #[.agg #[.int .u32 cat, .int .i64 lev], .int .u32 c] w fun e w' => e = .returned (.int .i64 (-1)) ∧ Below w.heap.size w w' := by
  have b := (Below.refl w.heap.size w).alloc (Nat.le_refl _) (.cells #[.int .u32 cat, .int .i64 lev] 90)
  go_enter Try.func122, Try.ntmps122
  go_wp2
  go_ret
  exact ⟨rfl, b⟩
theorem cmp_gt (cat lev c : Int) (w : World) (h : c < cat) : Calls Try.prog 122 #[.agg #[.int .u32 cat, .int .i64 lev], .int .u32 c] w fun e w' => e = .returned (.int .i64 1) ∧ Below w.heap.size w w' := by
  have b := (Below.refl w.heap.size w).alloc (Nat.le_refl _) (.cells #[.int .u32 cat, .int .i64 lev] 90)
  have h2 : c ≤ cat := by omega
  go_enter Try.func122, Try.ntmps122
  go_wp2
  go_ret
  exact ⟨rfl, b⟩
theorem cmp_eq (lev c : Int) (w : World) : Calls Try.prog 122 #[.agg #[.int .u32 c, .int .i64 lev], .int .u32 c] w fun e w' => e = .returned (.int .i64 0) ∧ Below w.heap.size w w' := by
  have b := (Below.refl w.heap.size w).alloc (Nat.le_refl _) (.cells #[.int .u32 c, .int .i64 lev] 90)
  have h2 : c ≤ c := by omega
  go_enter Try.func122, Try.ntmps122
  go_wp2
  go_ret
  exact ⟨rfl, b⟩

/-- Place i is the first whose category isn't below c. -/
def IsLow (ps : List (Int × Int)) (c : Int) (i : Nat) : Prop := i ≤ ps.length ∧ (∀ t (h : t < ps.length), t < i → ps[t].1 < c) ∧ (∀ t (h : t < ps.length), i ≤ t → c ≤ ps[t].1)
def RFind (w : World) (B : Nat) (A : Option Addr) (ps : List (Int × Int)) (c : Int) (vi vj : Value) (wr : World) : Prop :=
  ∃ i j : Nat, i ≤ j ∧ j ≤ ps.length ∧ vi = .int .i64 i ∧ vj = .int .i64 j ∧ (∀ t (h : t < ps.length), t < i → ps[t].1 < c) ∧ (∀ t (h : t < ps.length), j ≤ t → c ≤ ps[t].1) ∧ PairsAt wr B A ps ∧ Below w.heap.size w wr
def FindEnd (w : World) (ps : List (Int × Int)) (c : Int) (e : Ending) (w' : World) : Prop :=
  ∃ i : Nat, IsLow ps c i ∧ e = .returned (.tuple #[.int .i64 i, .bool (decide (∃ h : i < ps.length, ps[i].1 = c))]) ∧ Below w.heap.size w w'

theorem rise_pair : ∀ {ps : List (Int × Int)} {m : Int}, Rise m ps → ∀ s t (hs : s < ps.length) (ht : t < ps.length), s ≤ t → ps[s].1 ≤ ps[t].1
  | p :: r, m, h, 0, 0, _, _, _ => Int.le_refl _
  | p :: r, m, h, 0, t + 1, _, ht, _ => by
    have ht' : t < r.length := by simpa using ht
    have := h.2.lt r[t] (List.getElem_mem _)
    show p.1 ≤ r[t].1
    omega
  | p :: r, m, h, s + 1, t + 1, hs, ht, hst => rise_pair h.2 s t (by simpa using hs) (by simpa using ht) (by omega)

theorem enters122 : ∀ args w, (callFunc 122 args).run Try.prog w = .ok (.enter 122 args) w := enters_of Try.func122 (by kernel_rfl) rfl

set_option maxRecDepth 100000 in
set_option maxHeartbeats 1600000 in
theorem search_any (A : Option Addr) (cp : Nat) (ps : List (Int × Int)) (c : Int) (B : Nat) (w : World) (h : PairsAt w B A ps) (hB : B ≤ w.heap.size) (hm : ps.length ≤ 1000000) (hr : Rise 0 ps) :
    Calls Try.prog 121 #[.slice A ps.length cp, .int .u32 c, .func (.func 122) #[] #[]] w (FindEnd w ps c) := by
  have HR := Lib.hid (rise_pair hr)
  have r0 : RFind w B A ps c (.int .i64 0) (.int .i64 (ps.length : Int)) w := ⟨0, ps.length, Nat.zero_le _, Nat.le_refl _, rfl, rfl, fun t _ h => absurd h (by omega), fun t h h' => absurd h (by omega), h, Below.refl _ _⟩
  clear h hr
  go_enter Try.func121, Try.ntmps121
  go_wp2
  go_loopw [9, 10] (fun vi vj wr => RFind w B A ps c vi vj wr) (fun vi vj _ => (intOf vj).toNat - (intOf vi).toNat)
  case atStart => exact r0
  case round =>
    clear r0
    obtain ⟨i, j, hij, hj, rfl, rfl, h1, h2, hp, hb⟩ := hrel
    have H1 := Lib.hid h1
    have H2 := Lib.hid h2
    clear h1 h2
    by_cases hlt : i < j
    · obtain ⟨b, off, rfl, hbB, hc⟩ := hp (by omega)
      have hP := Lib.hid hp
      obtain ⟨e0, e1⟩ := hc ((i + j) / 2) (by omega)
      clear hc hp
      have hq1 : i ≤ (i + j) / 2 ∧ (i + j) / 2 < j := by omega
      rcases Int.lt_trichotomy (ps[(i + j) / 2]'(by omega)).1 c with hcmp | hcmp | hcmp
      · have N1 : Hid (∀ t (h : t < ps.length), t < (i + j) / 2 + 1 → ps[t].1 < c) := fun t h ht => by
          have := HR.out t ((i + j) / 2) h (by omega) (by omega)
          omega
        generalize ps[(i + j) / 2] = pr at *
        obtain ⟨cat, lev⟩ := pr
        simp only at e0 e1 hcmp
        go_wp2_with (go_at_call 122; refine (cmp_lt cat lev c _ hcmp).mono ?_; rintro e w1 ⟨rfl, hb1⟩)
        go_roundw
        case rel => exact ⟨(i + j) / 2 + 1, j, by omega, by omega, val_int (by omega), rfl, N1.out, H2.out, hP.out.below (hb1.mono (Nat.le_trans hB hb.size)), hb.trans (hb1.mono hb.size)⟩
        case measure => simp [intOf]; omega
      · have N1 : Hid (∀ t (h : t < ps.length), (i + j) / 2 ≤ t → c ≤ ps[t].1) := fun t h ht => by
          have := HR.out ((i + j) / 2) t (by omega) h ht
          omega
        generalize ps[(i + j) / 2] = pr at *
        obtain ⟨cat, lev⟩ := pr
        simp only at e0 e1 hcmp
        subst hcmp
        go_wp2_with (go_at_call 122; refine (cmp_eq lev cat _).mono ?_; rintro e w1 ⟨rfl, hb1⟩)
        go_roundw
        case rel => exact ⟨i, (i + j) / 2, by omega, by omega, rfl, val_int (by omega), H1.out, N1.out, hP.out.below (hb1.mono (Nat.le_trans hB hb.size)), hb.trans (hb1.mono hb.size)⟩
        case measure => simp [intOf]; omega
      · have N1 : Hid (∀ t (h : t < ps.length), (i + j) / 2 ≤ t → c ≤ ps[t].1) := fun t h ht => by
          have := HR.out ((i + j) / 2) t (by omega) h ht
          omega
        generalize ps[(i + j) / 2] = pr at *
        obtain ⟨cat, lev⟩ := pr
        simp only at e0 e1 hcmp
        go_wp2_with (go_at_call 122; refine (cmp_gt cat lev c _ hcmp).mono ?_; rintro e w1 ⟨rfl, hb1⟩)
        go_roundw
        case rel => exact ⟨i, (i + j) / 2, by omega, by omega, rfl, val_int (by omega), H1.out, N1.out, hP.out.below (hb1.mono (Nat.le_trans hB hb.size)), hb.trans (hb1.mono hb.size)⟩
        case measure => simp [intOf]; omega
    · obtain rfl : i = j := by omega
      have hlow : Hid (IsLow ps c i) := ⟨hj, H1.out, H2.out⟩
      by_cases hin : i < ps.length
      · obtain ⟨b, off, rfl, hbB, hc⟩ := hp (by omega)
        obtain ⟨e0, e1⟩ := hc i hin
        have hP := Lib.hid hp
        clear hc hp
        rcases Int.lt_trichotomy ps[i].1 c with hcmp | hcmp | hcmp
        · have hfin := Lib.hid (show (decide (∃ h : i < ps.length, ps[i].1 = c)) = false by simp; intro _; omega)
          generalize ps[i] = pr at *
          obtain ⟨cat, lev⟩ := pr
          simp only at e0 e1 hcmp
          go_wp2_with (go_at_call 122; refine (cmp_lt cat lev c _ hcmp).mono ?_; rintro e w1 ⟨rfl, hb1⟩)
          go_ret2
          exact ⟨i, hlow.out, by rw [hfin.out]; rfl, hb.trans (hb1.mono hb.size)⟩
        · have hfin := Lib.hid (show (decide (∃ h : i < ps.length, ps[i].1 = c)) = true by simp; exact ⟨hin, hcmp⟩)
          generalize ps[i] = pr at *
          obtain ⟨cat, lev⟩ := pr
          simp only at e0 e1 hcmp
          subst hcmp
          go_wp2_with (go_at_call 122; refine (cmp_eq lev cat _).mono ?_; rintro e w1 ⟨rfl, hb1⟩)
          go_ret2
          exact ⟨i, hlow.out, by rw [hfin.out]; rfl, hb.trans (hb1.mono hb.size)⟩
        · have hfin := Lib.hid (show (decide (∃ h : i < ps.length, ps[i].1 = c)) = false by simp; intro _; omega)
          generalize ps[i] = pr at *
          obtain ⟨cat, lev⟩ := pr
          simp only at e0 e1 hcmp
          go_wp2_with (go_at_call 122; refine (cmp_gt cat lev c _ hcmp).mono ?_; rintro e w1 ⟨rfl, hb1⟩)
          go_ret2
          exact ⟨i, hlow.out, by rw [hfin.out]; rfl, hb.trans (hb1.mono hb.size)⟩
      · have hfin := Lib.hid (show (decide (∃ h : i < ps.length, ps[i].1 = c)) = false by simp; omega)
        clear hp
        go_wp2_with fail
        go_ret2
        exact ⟨i, hlow.out, by rw [hfin.out]; rfl, hb⟩

set_option maxHeartbeats 400000 in
theorem find_any (v : Value) (l : Lab) (c : Int) (w : World) (h : LabV w w.heap.size v l) (hl : l.ps.length ≤ 100000) (hg : Good l) :
    Calls Try.prog 103 #[v, .int .u32 c] w (FindEnd w l.ps c) := by
  obtain ⟨A, cp, rfl, hp, hcp⟩ := h
  have b0 := (Below.refl w.heap.size w).alloc (Nat.le_refl _) (.cells #[.int .i64 l.d, .slice A l.ps.length cp] 39)
  go_enter Try.func103, Try.ntmps103
  go_wp2_with fail
  have hp2 := hp.below b0
  generalize w.alloc (.cells #[.int .i64 l.d, .slice A l.ps.length cp] 39) = w1 at *
  refine (search_any A cp l.ps c w.heap.size w1 hp2 b0.size (by omega) hg.rise).mono ?_
  rintro e w2 ⟨i, hi, rfl, hb⟩
  have HI := Lib.hid hi
  clear hi hp hp2
  go_wp2_with fail
  go_ret2
  exact ⟨i, HI.out, rfl, b0.trans (hb.mono b0.size)⟩
end Go.Proofs.Ytihddficgpjgpaa
