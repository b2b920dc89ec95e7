/- The document's categories of two labels, rising, each once. -/
import Derived.Test.YtihddficgpjgpaaOwns
import Derived.Deep.RegionHeld3
import Derived.Deep.CutBlock
namespace Go.Proofs.Ytihddficgpjgpaa
open Go.RowKit Go.ChangeShapes Go.WideShapes Go.Shelf

/-- Behind the first region: the pairs of both. -/
def Cats1 (w : World) (ps : List (Int × Int)) (v : Value) (W : World) : Prop :=
  W.ownsRow w.heap.size 90 2 v ps.length (pcells ps) ∧ Below w.heap.size w W

/-- The last of some categories; 0, if there is none. -/
def lastC (cs : List Int) : Int := cs.getLast?.getD 0
theorem rise_len : ∀ {cs : List Int} {m : Int} {ps : List (Int × Int)}, RiseC m cs → (∀ x ∈ cs, ∃ p ∈ ps, p.1 = x) → cs.length ≤ (ps.filter fun p => decide (m < p.1)).length
  | [], _, _, _, _ => Nat.zero_le _
  | c :: t, m, ps, h, hin => by
    obtain ⟨p, hp, e⟩ := hin c (by simp)
    have ih := rise_len (ps := ps) h.2 (fun x hx => hin x (by simp [hx]))
    have h1 := h.1
    have hlt : (ps.filter fun q => decide (c < q.1)).length < (ps.filter fun q => decide (m < q.1)).length := by
      have hsub : (ps.filter fun q => decide (c < q.1)) = ((ps.filter fun q => decide (m < q.1)).filter fun q => decide (c < q.1)) := by
        rw [List.filter_filter]
        congr 1
        funext q
        by_cases hq : c < q.1
        · have : m < q.1 := by omega
          simp [hq, this]
        · simp [hq]
      rw [hsub]
      refine List.length_filter_lt_length_iff_exists.2 ⟨p, List.mem_filter.2 ⟨hp, by simp; omega⟩, by simp; omega⟩
    simp only [List.length_cons]
    omega
/-- The least category above last among the first k; 0, if there is none. -/
def BestOf (ps : List (Int × Int)) (last : Int) (k : Nat) (best : Int) : Prop :=
  (best = 0 ∧ ∀ t (h : t < ps.length), t < k → ps[t].1 ≤ last) ∨ (0 < best ∧ last < best ∧ (∃ p ∈ ps, p.1 = best) ∧ ∀ t (h : t < ps.length), t < k → last < ps[t].1 → best ≤ ps[t].1)
theorem BestOf.nonneg {ps : List (Int × Int)} {last : Int} {k : Nat} {best : Int} (h : BestOf ps last k best) : 0 ≤ best := by
  rcases h with ⟨h, _⟩ | ⟨h, _⟩ <;> omega
theorem best_yes {ps : List (Int × Int)} {last : Int} {k : Nat} {best : Int} (h : BestOf ps last k best) (hk : k < ps.length) (hx : 0 < ps[k].1) (h1 : last < ps[k].1) (h2 : best = 0 ∨ ps[k].1 < best) : BestOf ps last (k + 1) ps[k].1 := by
  refine .inr ⟨hx, h1, ⟨_, List.getElem_mem hk, rfl⟩, fun t ht htk hl => ?_⟩
  by_cases e : t = k
  · subst e; exact Int.le_refl _
  · rcases h with ⟨_, h⟩ | ⟨h0, _, _, h⟩
    · have := h t ht (by omega); omega
    · have := h t ht (by omega) hl
      rcases h2 with h2 | h2 <;> omega
theorem best_no {ps : List (Int × Int)} {last : Int} {k : Nat} {best : Int} (h : BestOf ps last k best) (hk : k < ps.length) (h1 : ps[k].1 ≤ last ∨ (best ≠ 0 ∧ best ≤ ps[k].1)) : BestOf ps last (k + 1) best := by
  rcases h with ⟨hb, h⟩ | ⟨h0, h2, h3, h⟩
  · refine .inl ⟨hb, fun t ht htk => ?_⟩
    by_cases e : t = k
    · subst e
      rcases h1 with h1 | h1
      · exact h1
      · exact absurd hb h1.1
    · exact h t ht (by omega)
  · refine .inr ⟨h0, h2, h3, fun t ht htk hl => ?_⟩
    by_cases e : t = k
    · subst e
      rcases h1 with h1 | h1
      · omega
      · exact h1.2
    · exact h t ht (by omega) hl
def RBest (ps : List (Int × Int)) (last : Int) (vb vi : Value) : Prop := ∃ (k : Nat) (best : Int), k ≤ ps.length ∧ vi = .int .i64 k ∧ vb = .int .u32 best ∧ BestOf ps last k best
theorem rise_last : ∀ {cs : List Int} {m : Int}, RiseC m cs → ∀ x ∈ cs, x ≤ lastC cs
  | [c], m, _, x, hx => by simp at hx; subst hx; simp [lastC]
  | c :: d :: t, m, h, x, hx => by
    have e : lastC (c :: d :: t) = lastC (d :: t) := by simp [lastC]
    rw [e]
    have ih := rise_last h.2
    rcases List.mem_cons.1 hx with rfl | hx
    · have h1 := h.2.1
      have := ih d (by simp)
      omega
    · exact ih x hx
theorem filter_less (ps : List (Int × Int)) {last best : Int} (h : last < best) (hin : ∃ p ∈ ps, p.1 = best) : (ps.filter fun q => decide (best < q.1)).length < (ps.filter fun q => decide (last < q.1)).length := by
  obtain ⟨p, hp, e⟩ := hin
  have hsub : (ps.filter fun q => decide (best < q.1)) = ((ps.filter fun q => decide (last < q.1)).filter fun q => decide (best < q.1)) := by
    rw [List.filter_filter]
    congr 1
    funext q
    by_cases hq : best < q.1
    · have : last < q.1 := by omega
      simp [hq, this]
    · simp [hq]
  rw [hsub]
  exact List.length_filter_lt_length_iff_exists.2 ⟨p, List.mem_filter.2 ⟨hp, by simp; omega⟩, by simp; omega⟩
theorem own_grown {w w' : World} {B n size : Nat} {e : TypeId} {v : Value} {xs : List Value} {row : Option Nat} (h : w.ownsRow B e size v n xs) (hg : w.grownBy w' row) (hne : ∀ g, v.ownBlock = some g → some g ≠ row) : w'.ownsRow B e size v n xs := by
  refine ⟨h.1, ?_⟩
  rcases h.2 with h1 | ⟨g', cap, cur, h0, h1, h2, h3⟩
  · exact .inl h1
  · exact .inr ⟨g', cap, cur, h0, h1, Blk.grown (g := g') h2 hg (hne g' (by rw [h0]; rfl)), h3⟩
theorem own_ne2 {w : World} {B B' n n' size size' : Nat} {v v' : Value} {xs xs' : List Value} (h : w.ownsRow B 90 size v n xs) (h' : w.ownsRow B' 70 size' v' n' xs') : ∀ g, v.ownBlock = some g → some g ≠ v'.ownBlock := fun g hg => by
  obtain ⟨_, cs, hb⟩ := own_row_blk h hg
  exact own_ne h' hb (by decide)
/-- Between two rounds: cs are those up to the last one. -/
def RCats (w : World) (A6 : Option Addr) (c6 : Nat) (ps : List (Int × Int)) (gg : Nat) (v : Value) (wr : World) : Prop :=
  ∃ cs : List Int, wr.ownsRow w.heap.size 70 1 v cs.length (u32s cs) ∧ RiseC 0 cs ∧ (∀ x ∈ cs, ∃ p ∈ ps, p.1 = x) ∧ (∀ p ∈ ps, p.1 ≤ lastC cs → p.1 ∈ cs) ∧ (ps.filter fun p => decide (lastC cs < p.1)).length ≤ gg ∧
    wr.ownsRow w.heap.size 90 2 (.slice A6 ps.length c6) ps.length (pcells ps) ∧ Below w.heap.size w wr
theorem pcells_app (a b : List (Int × Int)) : pcells (a ++ b) = pcells a ++ pcells b := by simp [pcells]

set_option maxRecDepth 100000 in
set_option maxHeartbeats 800000 in
theorem cats_any (va vb : Value) (a b : Lab) (w : World) (ha : LabV w w.heap.size va a) (hb : LabV w w.heap.size vb b) (hga : Rise 0 a.ps) (hgb : Rise 0 b.ps) (hl : a.ps.length + b.ps.length ≤ 100000) :
    Calls Try.prog 112 #[va, vb] w fun e w' => ∃ v cs, e = .returned v ∧ w'.ownsRow w.heap.size 70 1 v cs.length (u32s cs) ∧ Names a b cs ∧ Below w.heap.size w w' := by
  obtain ⟨i0, hi0, hz0, hz1, hz2⟩ := info_parts Try.info90
  obtain ⟨Aa, ca, rfl, pa, la⟩ := ha
  obtain ⟨Ab, cb, rfl, pb, lb⟩ := hb
  have b0 := ((Below.refl w.heap.size w).alloc (Nat.le_refl _) (.cells #[.int .i64 a.d, .slice Aa a.ps.length ca] 39)).alloc (by simp) (.cells #[.int .i64 b.d, .slice Ab b.ps.length cb] 39)
  have k1 := (Blk.new w 39 #[.int .i64 a.d, .slice Aa a.ps.length ca]).alloc (.cells #[.int .i64 b.d, .slice Ab b.ps.length cb] 39)
  have k2 := Blk.new (w.alloc (.cells #[.int .i64 a.d, .slice Aa a.ps.length ca] 39)) 39 #[.int .i64 b.d, .slice Ab b.ps.length cb]
  rw [World.size_alloc] at k2
  have pa1 := pairs_reads (pa.below b0)
  have pb1 := pairs_reads (pb.below b0)
  go_enter Try.func112, Try.ntmps112
  go_upto_region 2 with fail
  generalize (w.alloc (.cells #[.int .i64 a.d, .slice Aa a.ps.length ca] 39)).alloc (.cells #[.int .i64 b.d, .slice Ab b.ps.length cb] 39) = w1 at *
  clear pa pb la lb
  go_cut [6] from 10 to 15 (fun v wx => Cats1 w (a.ps ++ b.ps) v wx)
  case first =>
    have e0 := k1.cell 1
    have e1 := k2.cell 1
    simp at e0 e1
    have K1 := Lib.hid k1
    have K2 := Lib.hid k2
    have PB := Lib.hid pb1
    have PA := Lib.hid pa1
    have HB := Lib.hid b0
    have hs : w.heap.size ≤ w1.drew.heap.size := b0.size
    clear k1 k2 pa1 pb1 b0 hga hgb
    go_region_held3 (fun w' => w'.cell? ⟨w.heap.size, 1, none⟩ = some (.slice Aa a.ps.length ca) ∧ w'.cell? ⟨w.heap.size + 1, 1, none⟩ = some (.slice Ab b.ps.length cb))
      (first
        | go_keep
        | (exact ⟨q0, q1⟩))
      (first
        | ((refine step_append_any _ rfl (.const (.slice none 0 0)) (.tmp 11) 37 rfl w.heap.size 90 i0 _ 2 16 Try.underlying37 hi0 hz0 hz1 hz2 rfl (by decide) (.slice none 0 0) 0 [] rfl (World.ownsRow_nil _ _ _ _) w.heap.size Aa a.ps.length ca (pcells a.ps) (by rfl) PA.out.drew (pcells_one _) (by unfold maxLen; omega) (by omega) hs ?_; intro v3 w3 o3 g3 a3; have j1 := K1.out.drew.grown g3 (by simp [Value.ownBlock]); have j2 := K2.out.drew.grown g3 (by simp [Value.ownBlock]); have q0 := j1.cell 1; have q1 := j2.cell 1; simp at q0 q1))
        | ((refine step_append_any _ rfl (.tmp 12) (.tmp 14) 37 rfl w.heap.size 90 i0 _ 2 16 Try.underlying37 hi0 hz0 hz1 hz2 rfl (by decide) v3 (0 + a.ps.length) _ (by rfl) o3 w.heap.size Ab b.ps.length cb (pcells b.ps) (by rfl) (PB.out.drew.grown g3 hs (by simp [Value.ownBlock])) (pcells_one _) (by unfold maxLen; omega) (by omega) (Nat.le_trans hs g3.size) ?_; intro v4 w4 o4 g4 a4; have i1 := j1.grown g4 (own_ne o3 j1 (by decide)); have i2 := j2.grown g4 (own_ne o3 j2 (by decide)); have q0 := i1.cell 1; have q1 := i2.cell 1; simp at q0 q1)))
    have HC : Hid (Cats1 w (a.ps ++ b.ps) v4 w4) := by
      have h3 := (below_drewN HB.out 1).grown g3 hs (by simp [Value.ownBlock])
      refine ⟨?_, h3.grown g4 h3.size (fun x hx => (own_row_blk o3 hx).1)⟩
      rw [pcells_app, List.length_append]
      simpa using o4
    go_wp2_with fail
    go_meet
    exact HC.out
  case rest =>
    clear k1 k2 pa1 pb1 b0
    obtain ⟨oall, ball⟩ := hcut
    obtain ⟨A6, c6, rfl⟩ := own_slice oall
    have hpos : ∀ p ∈ a.ps ++ b.ps, 0 < p.1 := fun p hp => by
      rcases List.mem_append.1 hp with h | h
      · exact hga.lt p h
      · exact hgb.lt p h
    have hN : ∀ cs : List Int, RiseC 0 cs → (∀ x, x ∈ cs ↔ ∃ p ∈ a.ps ++ b.ps, p.1 = x) → Names a b cs := fun cs h1 h2 => ⟨h1, fun x => by
      rw [h2]
      constructor
      · rintro ⟨p, hp, e⟩
        rcases List.mem_append.1 hp with h | h
        · exact .inl ⟨p, h, e⟩
        · exact .inr ⟨p, h, e⟩
      · rintro (⟨p, hp, e⟩ | ⟨p, hp, e⟩)
        · exact ⟨p, List.mem_append_left _ hp, e⟩
        · exact ⟨p, List.mem_append_right _ hp, e⟩⟩
    have HN := Lib.hid hN
    have hlen : (a.ps ++ b.ps).length ≤ 100000 := by simp; omega
    clear hN hga hgb hl
    generalize a.ps ++ b.ps = ps at *
    have r0 : RCats w A6 c6 ps ps.length (.slice none 0 0) wc := ⟨[], World.ownsRow_nil _ _ _ _, True.intro, by simp, by simp [lastC]; exact fun p q hp => hpos (p, q) hp, List.length_filter_le _ _, oall, ball⟩
    have HP := Lib.hid hpos
    clear oall ball hpos
    go_wp2_with fail
    go_loopg [5] ps.length (fun gg v wr => RCats w A6 c6 ps gg v wr)
    case atStart => exact r0
    case round =>
      clear r0
      obtain ⟨cs, ho, hr, hin, hall, hgg, oall, ball⟩ := hrel
      obtain ⟨A5, c5, rfl⟩ := own_slice ho
      have hpr := own_pairs oall
      have hin5 := own_ints (k := .u32) ho
      have hcl : cs.length ≤ ps.length + 1 := by
        have := Nat.le_trans (rise_len hr (fun x hx => hin x hx)) (List.length_filter_le _ _)
        omega
      have HO := Lib.hid ho
      have HR := Lib.hid hr
      have HI := Lib.hid hin
      have HA := Lib.hid hall
      have HG := Lib.hid hgg
      have OA := Lib.hid oall
      have BA := Lib.hid ball
      have hbs := ball.size
      clear ho hr hin hall hgg oall ball
      go_wp2_with fail
      go_loop [7, 8] (fun vb vi => RBest ps (lastC cs) vb vi) (fun _ vi => ps.length - (intOf vi).toNat)
      case atStart => exact ⟨0, 0, Nat.zero_le _, rfl, rfl, .inl ⟨rfl, fun t _ h => absurd h (by omega)⟩⟩
      case round =>
        obtain ⟨k, best, hk, rfl, rfl, hbest⟩ := hrel
        by_cases hlt : k < ps.length
        · obtain ⟨b6, o6, rfl, _, hc6⟩ := hpr (by omega)
          obtain ⟨c0, _⟩ := hc6 k hlt
          have hx0 := HP.out _ (List.getElem_mem hlt)
          have N1 := Lib.hid (best_yes hbest hlt hx0)
          have N2 := Lib.hid (best_no hbest hlt)
          have hb0 := hbest.nonneg
          clear hbest hc6
          generalize ps[k].1 = x at *
          by_cases hcs : cs = []
          · subst hcs
            have hlast : lastC [] = 0 := rfl
            have hl0 : lastC [] < x := by rw [hlast]; exact hx0
            clear hlast
            by_cases hb1 : best = 0
            · have N := Lib.hid (N1.out hl0 (.inl hb1))
              have hbb : (best == 0) = true := by simpa using hb1
              clear N1 N2
              go_wp2_with fail
              go_round
              case rel => exact ⟨k + 1, x, by omega, by go_num, rfl, N.out⟩
              case measure => simp [intOf]; omega
            · have hbb : (best == 0) = false := by simpa using hb1
              by_cases hb2 : x < best
              · have N := Lib.hid (N1.out hl0 (.inr hb2))
                have hbd : decide (x < best) = true := by simpa using hb2
                clear N1 N2
                go_wp2_with fail
                go_round
                case rel => exact ⟨k + 1, x, by omega, by go_num, rfl, N.out⟩
                case measure => simp [intOf]; omega
              · have N := Lib.hid (N2.out (.inr ⟨hb1, by omega⟩))
                have hbd : decide (x < best) = false := by simpa using hb2
                clear N1 N2
                go_wp2_with fail
                go_round
                case rel => exact ⟨k + 1, best, by omega, by go_num, rfl, N.out⟩
                case measure => simp [intOf]; omega
          · have hne : 0 < cs.length := List.length_pos_iff.2 hcs
            have hA : ((cs.length : Int) == 0) = false := by simp; omega
            obtain ⟨b5, o5, rfl, _, hc5⟩ := hin5 hne
            have e5 := hc5 (cs.length - 1) (by omega)
            rw [show cs[cs.length - 1]'(by omega) = lastC cs by unfold lastC; rw [List.getLast?_eq_getElem?, List.getElem?_eq_getElem (by omega)]; rfl] at e5
            clear hc5 hin5 hcs
            generalize lastC cs = last at *
            have j0 : (0 : Int) ≤ (cs.length : Int) - 1 ∧ (cs.length : Int) - 1 < (cs.length : Int) := by omega
            have hcl2 : (1 : Int) ≤ (cs.length : Int) := by omega
            by_cases hgt : last < x
            · have hgd : decide (x > last) = true := by simpa using hgt
              by_cases hb1 : best = 0
              · have N := Lib.hid (N1.out hgt (.inl hb1))
                have hbb : (best == 0) = true := by simpa using hb1
                clear N1 N2
                go_wp2_with fail
                go_round
                case rel => exact ⟨k + 1, x, by omega, by go_num, rfl, N.out⟩
                case measure => simp [intOf]; omega
              · have hbb : (best == 0) = false := by simpa using hb1
                by_cases hb2 : x < best
                · have N := Lib.hid (N1.out hgt (.inr hb2))
                  have hbd : decide (x < best) = true := by simpa using hb2
                  clear N1 N2
                  go_wp2_with fail
                  go_round
                  case rel => exact ⟨k + 1, x, by omega, by go_num, rfl, N.out⟩
                  case measure => simp [intOf]; omega
                · have N := Lib.hid (N2.out (.inr ⟨hb1, by omega⟩))
                  have hbd : decide (x < best) = false := by simpa using hb2
                  clear N1 N2
                  go_wp2_with fail
                  go_round
                  case rel => exact ⟨k + 1, best, by omega, by go_num, rfl, N.out⟩
                  case measure => simp [intOf]; omega
            · have hgd : decide (x > last) = false := by simpa using hgt
              have N := Lib.hid (N2.out (.inl (by omega)))
              clear N1 N2
              go_wp2_with fail
              go_round
              case rel => exact ⟨k + 1, best, by omega, by go_num, rfl, N.out⟩
              case measure => simp [intOf]; omega
        · obtain rfl : k = ps.length := by omega
          rcases hbest with ⟨hb0, hb⟩ | ⟨hb0, hb1, hb2, hb3⟩
          · subst hb0
            have hNM := Lib.hid (HN.out cs HR.out (fun x => ⟨HI.out x, fun ⟨p, hp, e⟩ => by
              rw [← e]
              refine HA.out p hp ?_
              obtain ⟨t, ht, rfl⟩ := List.getElem_of_mem hp
              exact hb t ht ht⟩))
            clear hb hpr hin5
            go_wp2_with fail
            go_ret
            exact ⟨_, rfl, cs, HO.out, hNM.out, BA.out⟩
          · have hbz : (best == 0) = false := by simp; omega
            have hle : ∀ x ∈ cs, x ≤ lastC cs := rise_last HR.out
            have M := Lib.hid (filter_less ps hb1 hb2)
            have N : Hid (RiseC 0 (cs ++ [best]) ∧ (∀ x ∈ cs ++ [best], ∃ p ∈ ps, p.1 = x) ∧ (∀ p ∈ ps, p.1 ≤ lastC (cs ++ [best]) → p.1 ∈ cs ++ [best]) ∧ lastC (cs ++ [best]) = best) := by
              have hl : lastC (cs ++ [best]) = best := by simp [lastC]
              refine ⟨HR.out.snoc best hb0 (fun x hx => by have := hle x hx; omega), fun x hx => ?_, fun p hp hpl => ?_, hl⟩
              · rcases List.mem_append.1 hx with h | h
                · exact HI.out x h
                · simp at h; subst h; exact hb2
              · rw [hl] at hpl
                by_cases h : p.1 ≤ lastC cs
                · exact List.mem_append_left _ (HA.out p hp h)
                · obtain ⟨t, ht, rfl⟩ := List.getElem_of_mem hp
                  have := hb3 t ht ht (by omega)
                  have e : ps[t].1 = best := by omega
                  rw [e]; simp
            have ho2 := HO.out.alloc (.cells #[.int .u32 best] 70)
            have hcn := Lib.hid (cell_one_new wr (.int .u32 best) 70)
            have HOA := Lib.hid (OA.out.alloc (.cells #[.int .u32 best] 70))
            obtain ⟨j0, hj0, jz0, jz1, jz2⟩ := info_parts Try.info70
            clear hb1 hb2 hb3 hb0 hle hpr hin5
            go_wp2_with (at_builtin; refine wpList_append_own_at _ rfl _ _ 75 rfl w.heap.size 70 j0 _ 1 4 Try.underlying75 hj0 jz0 jz1 jz2 rfl (by decide) (.slice A5 cs.length c5) _ _ rfl ho2 ⟨wr.heap.size, 0, none⟩ 1 1 [.int .u32 best] rfl rfl hcn.out (by intro u hu; simp at hu; subst hu; rfl) (by unfold maxLen; omega) (by omega) (by simp; omega) ?_; intro v2 w2 o2 g2 _ _)
            go_roundg (ps.filter fun p => decide (best < p.1)).length
            case measure => have := M.out; have := HG.out; omega
            case rel =>
              refine ⟨cs ++ [best], by simpa [u32s] using o2, N.out.1, N.out.2.1, N.out.2.2.1, by rw [N.out.2.2.2]; exact Nat.le_refl _, own_grown HOA.out g2 (own_ne2 HOA.out ho2), (BA.out.alloc hbs _).grown g2 (by simp; omega) (fun x hx => own_base ho2 hx)⟩
end Go.Proofs.Ytihddficgpjgpaa
