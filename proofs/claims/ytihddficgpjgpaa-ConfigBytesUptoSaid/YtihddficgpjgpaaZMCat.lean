/- MCat: Cats, Refa, Make, Rmerge, one behind the other. -/
import Derived.Test.YtihddficgpjgpaaZMLeq
import Derived.Deep.RegionHeld3
import Derived.Deep.CutBlock
import Derived.Test.YtihddficgpjgpaaZMTop
namespace Go.Proofs.Ytihddficgpjgpaa
open Go.RowKit Go.ChangeShapes Go.WideShapes Go.Shelf
/-- Behind the first region: the pairs of both. -/
def Cats1 (w : World) (ps : List (Int × Int)) (v : Value) (W : World) : Prop :=
  W.ownsRow w.heap.size 90 2 v ps.length (pcells ps) ∧ Below w.heap.size w W
/-- The last of some categories; 0, if there is none. -/
def lastC (cs : List Int) : Int := cs.getLast?.getD 0
theorem rise_len : ∀ {cs : List Int} {m : Int} {ps : List (Int × Int)}, RiseC m cs → (∀ x ∈ cs, ∃ p ∈ ps, p.1 = x) → cs.length ≤ (ps.filter fun p => decide (m < p.1)).length
  | [], _, _, _, _ => Nat.zero_le _
  | c :: t, m, ps, h, hin => by
    obtain ⟨p, hp, e⟩ := hin c (by simp)
    have ih := rise_len (ps := ps) h.2 (fun x hx => hin x (by simp [hx]))
    have h1 := h.1
    have hlt : (ps.filter fun q => decide (c < q.1)).length < (ps.filter fun q => decide (m < q.1)).length := by
      have hsub : (ps.filter fun q => decide (c < q.1)) = ((ps.filter fun q => decide (m < q.1)).filter fun q => decide (c < q.1)) := by
        rw [List.filter_filter]
        congr 1
        funext q
        by_cases hq : c < q.1
        · have : m < q.1 := by omega
          simp [hq, this]
        · simp [hq]
      rw [hsub]
      refine List.length_filter_lt_length_iff_exists.2 ⟨p, List.mem_filter.2 ⟨hp, by simp; omega⟩, by simp; omega⟩
    simp only [List.length_cons]
    omega
/-- The least category above last among the first k; 0, if there is none. -/
def BestOf (ps : List (Int × Int)) (last : Int) (k : Nat) (best : Int) : Prop :=
  (best = 0 ∧ ∀ t (h : t < ps.length), t < k → ps[t].1 ≤ last) ∨ (0 < best ∧ last < best ∧ (∃ p ∈ ps, p.1 = best) ∧ ∀ t (h : t < ps.length), t < k → last < ps[t].1 → best ≤ ps[t].1)
theorem BestOf.nonneg {ps : List (Int × Int)} {last : Int} {k : Nat} {best : Int} (h : BestOf ps last k best) : 0 ≤ best := by
  rcases h with ⟨h, _⟩ | ⟨h, _⟩ <;> omega
theorem best_yes {ps : List (Int × Int)} {last : Int} {k : Nat} {best : Int} (h : BestOf ps last k best) (hk : k < ps.length) (hx : 0 < ps[k].1) (h1 : last < ps[k].1) (h2 : best = 0 ∨ ps[k].1 < best) : BestOf ps last (k + 1) ps[k].1 := by
  refine .inr ⟨hx, h1, ⟨_, List.getElem_mem hk, rfl⟩, fun t ht htk hl => ?_⟩
  by_cases e : t = k
  · subst e; exact Int.le_refl _
  · rcases h with ⟨_, h⟩ | ⟨h0, _, _, h⟩
    · have := h t ht (by omega); omega
    · have := h t ht (by omega) hl
      rcases h2 with h2 | h2 <;> omega
theorem best_no {ps : List (Int × Int)} {last : Int} {k : Nat} {best : Int} (h : BestOf ps last k best) (hk : k < ps.length) (h1 : ps[k].1 ≤ last ∨ (best ≠ 0 ∧ best ≤ ps[k].1)) : BestOf ps last (k + 1) best := by
  rcases h with ⟨hb, h⟩ | ⟨h0, h2, h3, h⟩
  · refine .inl ⟨hb, fun t ht htk => ?_⟩
    by_cases e : t = k
    · subst e
      rcases h1 with h1 | h1
      · exact h1
      · exact absurd hb h1.1
    · exact h t ht (by omega)
  · refine .inr ⟨h0, h2, h3, fun t ht htk hl => ?_⟩
    by_cases e : t = k
    · subst e
      rcases h1 with h1 | h1
      · omega
      · exact h1.2
    · exact h t ht (by omega) hl
def RBest (ps : List (Int × Int)) (last : Int) (vb vi : Value) : Prop := ∃ (k : Nat) (best : Int), k ≤ ps.length ∧ vi = .int .i64 k ∧ vb = .int .u32 best ∧ BestOf ps last k best
theorem rise_last : ∀ {cs : List Int} {m : Int}, RiseC m cs → ∀ x ∈ cs, x ≤ lastC cs
  | [c], m, _, x, hx => by simp at hx; subst hx; simp [lastC]
  | c :: d :: t, m, h, x, hx => by
    have e : lastC (c :: d :: t) = lastC (d :: t) := by simp [lastC]
    rw [e]
    have ih := rise_last h.2
    rcases List.mem_cons.1 hx with rfl | hx
    · have h1 := h.2.1
      have := ih d (by simp)
      omega
    · exact ih x hx
theorem filter_less (ps : List (Int × Int)) {last best : Int} (h : last < best) (hin : ∃ p ∈ ps, p.1 = best) : (ps.filter fun q => decide (best < q.1)).length < (ps.filter fun q => decide (last < q.1)).length := by
  obtain ⟨p, hp, e⟩ := hin
  have hsub : (ps.filter fun q => decide (best < q.1)) = ((ps.filter fun q => decide (last < q.1)).filter fun q => decide (best < q.1)) := by
    rw [List.filter_filter]
    congr 1
    funext q
    by_cases hq : best < q.1
    · have : last < q.1 := by omega
      simp [hq, this]
    · simp [hq]
  rw [hsub]
  exact List.length_filter_lt_length_iff_exists.2 ⟨p, List.mem_filter.2 ⟨hp, by simp; omega⟩, by simp; omega⟩
theorem own_grown {w w' : World} {B n size : Nat} {e : TypeId} {v : Value} {xs : List Value} {row : Option Nat} (h : w.ownsRow B e size v n xs) (hg : w.grownBy w' row) (hne : ∀ g, v.ownBlock = some g → some g ≠ row) : w'.ownsRow B e size v n xs := by
  refine ⟨h.1, ?_⟩
  rcases h.2 with h1 | ⟨g', cap, cur, h0, h1, h2, h3⟩
  · exact .inl h1
  · exact .inr ⟨g', cap, cur, h0, h1, Blk.grown (g := g') h2 hg (hne g' (by rw [h0]; rfl)), h3⟩
theorem own_ne2 {w : World} {B B' n n' size size' : Nat} {v v' : Value} {xs xs' : List Value} (h : w.ownsRow B 90 size v n xs) (h' : w.ownsRow B' 70 size' v' n' xs') : ∀ g, v.ownBlock = some g → some g ≠ v'.ownBlock := fun g hg => by
  obtain ⟨_, cs, hb⟩ := own_row_blk h hg
  exact own_ne h' hb (by decide)
/-- Between two rounds: cs are those up to the last one. -/
def RCats (w : World) (A6 : Option Addr) (c6 : Nat) (ps : List (Int × Int)) (gg : Nat) (v : Value) (wr : World) : Prop :=
  ∃ cs : List Int, wr.ownsRow w.heap.size 70 1 v cs.length (u32s cs) ∧ RiseC 0 cs ∧ (∀ x ∈ cs, ∃ p ∈ ps, p.1 = x) ∧ (∀ p ∈ ps, p.1 ≤ lastC cs → p.1 ∈ cs) ∧ (ps.filter fun p => decide (lastC cs < p.1)).length ≤ gg ∧
    wr.ownsRow w.heap.size 90 2 (.slice A6 ps.length c6) ps.length (pcells ps) ∧ Below w.heap.size w wr
theorem pcells_app (a b : List (Int × Int)) : pcells (a ++ b) = pcells a ++ pcells b := by simp [pcells]
set_option maxRecDepth 100000 in
set_option maxHeartbeats 800000 in
theorem cats_any (va vb : Value) (a b : Lab) (w : World) (ha : LabV w w.heap.size va a) (hb : LabV w w.heap.size vb b) (hga : Rise 0 a.ps) (hgb : Rise 0 b.ps) (hl : a.ps.length + b.ps.length ≤ 100000) :
    Calls Try.prog 112 #[va, vb] w fun e w' => ∃ v cs, e = .returned v ∧ w'.ownsRow w.heap.size 70 1 v cs.length (u32s cs) ∧ Names a b cs ∧ Below w.heap.size w w' := by
  obtain ⟨i0, hi0, hz0, hz1, hz2⟩ := info_parts Try.info90
  obtain ⟨Aa, ca, rfl, pa, la⟩ := ha
  obtain ⟨Ab, cb, rfl, pb, lb⟩ := hb
  have b0 := ((Below.refl w.heap.size w).alloc (Nat.le_refl _) (.cells #[.int .i64 a.d, .slice Aa a.ps.length ca] 39)).alloc (by simp) (.cells #[.int .i64 b.d, .slice Ab b.ps.length cb] 39)
  have k1 := (Blk.new w 39 #[.int .i64 a.d, .slice Aa a.ps.length ca]).alloc (.cells #[.int .i64 b.d, .slice Ab b.ps.length cb] 39)
  have k2 := Blk.new (w.alloc (.cells #[.int .i64 a.d, .slice Aa a.ps.length ca] 39)) 39 #[.int .i64 b.d, .slice Ab b.ps.length cb]
  rw [World.size_alloc] at k2
  have pa1 := pairs_reads (pa.below b0)
  have pb1 := pairs_reads (pb.below b0)
  go_enter Try.func112, Try.ntmps112
  go_upto_region 2 with fail
  generalize (w.alloc (.cells #[.int .i64 a.d, .slice Aa a.ps.length ca] 39)).alloc (.cells #[.int .i64 b.d, .slice Ab b.ps.length cb] 39) = w1 at *
  clear pa pb la lb
  go_cut [6] from 10 to 15 (fun v wx => Cats1 w (a.ps ++ b.ps) v wx)
  case first =>
    have e0 := k1.cell 1
    have e1 := k2.cell 1
    simp at e0 e1
    have K1 := Lib.hid k1
    have K2 := Lib.hid k2
    have PB := Lib.hid pb1
    have PA := Lib.hid pa1
    have HB := Lib.hid b0
    have hs : w.heap.size ≤ w1.drew.heap.size := b0.size
    clear k1 k2 pa1 pb1 b0 hga hgb
    go_region_held3 (fun w' => w'.cell? ⟨w.heap.size, 1, none⟩ = some (.slice Aa a.ps.length ca) ∧ w'.cell? ⟨w.heap.size + 1, 1, none⟩ = some (.slice Ab b.ps.length cb))
      (first
        | go_keep
        | (exact ⟨q0, q1⟩))
      (first
        | ((refine step_append_any _ rfl (.const (.slice none 0 0)) (.tmp 11) 37 rfl w.heap.size 90 i0 _ 2 16 Try.underlying37 hi0 hz0 hz1 hz2 rfl (by decide) (.slice none 0 0) 0 [] rfl (World.ownsRow_nil _ _ _ _) w.heap.size Aa a.ps.length ca (pcells a.ps) (by rfl) PA.out.drew (pcells_one _) (by unfold maxLen; omega) (by omega) hs ?_; intro v3 w3 o3 g3 a3; have j1 := K1.out.drew.grown g3 (by simp [Value.ownBlock]); have j2 := K2.out.drew.grown g3 (by simp [Value.ownBlock]); have q0 := j1.cell 1; have q1 := j2.cell 1; simp at q0 q1))
        | ((refine step_append_any _ rfl (.tmp 12) (.tmp 14) 37 rfl w.heap.size 90 i0 _ 2 16 Try.underlying37 hi0 hz0 hz1 hz2 rfl (by decide) v3 (0 + a.ps.length) _ (by rfl) o3 w.heap.size Ab b.ps.length cb (pcells b.ps) (by rfl) (PB.out.drew.grown g3 hs (by simp [Value.ownBlock])) (pcells_one _) (by unfold maxLen; omega) (by omega) (Nat.le_trans hs g3.size) ?_; intro v4 w4 o4 g4 a4; have i1 := j1.grown g4 (own_ne o3 j1 (by decide)); have i2 := j2.grown g4 (own_ne o3 j2 (by decide)); have q0 := i1.cell 1; have q1 := i2.cell 1; simp at q0 q1)))
    have HC : Hid (Cats1 w (a.ps ++ b.ps) v4 w4) := by
      have h3 := (below_drewN HB.out 1).grown g3 hs (by simp [Value.ownBlock])
      refine ⟨?_, h3.grown g4 h3.size (fun x hx => (own_row_blk o3 hx).1)⟩
      rw [pcells_app, List.length_append]
      simpa using o4
    go_wp2_with fail
    go_meet
    exact HC.out
  case rest =>
    clear k1 k2 pa1 pb1 b0
    obtain ⟨oall, ball⟩ := hcut
    obtain ⟨A6, c6, rfl⟩ := own_slice oall
    have hpos : ∀ p ∈ a.ps ++ b.ps, 0 < p.1 := fun p hp => by
      rcases List.mem_append.1 hp with h | h
      · exact hga.lt p h
      · exact hgb.lt p h
    have hN : ∀ cs : List Int, RiseC 0 cs → (∀ x, x ∈ cs ↔ ∃ p ∈ a.ps ++ b.ps, p.1 = x) → Names a b cs := fun cs h1 h2 => ⟨h1, fun x => by
      rw [h2]
      constructor
      · rintro ⟨p, hp, e⟩
        rcases List.mem_append.1 hp with h | h
        · exact .inl ⟨p, h, e⟩
        · exact .inr ⟨p, h, e⟩
      · rintro (⟨p, hp, e⟩ | ⟨p, hp, e⟩)
        · exact ⟨p, List.mem_append_left _ hp, e⟩
        · exact ⟨p, List.mem_append_right _ hp, e⟩⟩
    have HN := Lib.hid hN
    have hlen : (a.ps ++ b.ps).length ≤ 100000 := by simp; omega
    clear hN hga hgb hl
    generalize a.ps ++ b.ps = ps at *
    have r0 : RCats w A6 c6 ps ps.length (.slice none 0 0) wc := ⟨[], World.ownsRow_nil _ _ _ _, True.intro, by simp, by simp [lastC]; exact fun p q hp => hpos (p, q) hp, List.length_filter_le _ _, oall, ball⟩
    have HP := Lib.hid hpos
    clear oall ball hpos
    go_wp2_with fail
    go_loopg [5] ps.length (fun gg v wr => RCats w A6 c6 ps gg v wr)
    case atStart => exact r0
    case round =>
      clear r0
      obtain ⟨cs, ho, hr, hin, hall, hgg, oall, ball⟩ := hrel
      obtain ⟨A5, c5, rfl⟩ := own_slice ho
      have hpr := own_pairs oall
      have hin5 := own_ints (k := .u32) ho
      have hcl : cs.length ≤ ps.length + 1 := by
        have := Nat.le_trans (rise_len hr (fun x hx => hin x hx)) (List.length_filter_le _ _)
        omega
      have HO := Lib.hid ho
      have HR := Lib.hid hr
      have HI := Lib.hid hin
      have HA := Lib.hid hall
      have HG := Lib.hid hgg
      have OA := Lib.hid oall
      have BA := Lib.hid ball
      have hbs := ball.size
      clear ho hr hin hall hgg oall ball
      go_wp2_with fail
      go_loop [7, 8] (fun vb vi => RBest ps (lastC cs) vb vi) (fun _ vi => ps.length - (intOf vi).toNat)
      case atStart => exact ⟨0, 0, Nat.zero_le _, rfl, rfl, .inl ⟨rfl, fun t _ h => absurd h (by omega)⟩⟩
      case round =>
        obtain ⟨k, best, hk, rfl, rfl, hbest⟩ := hrel
        by_cases hlt : k < ps.length
        · obtain ⟨b6, o6, rfl, _, hc6⟩ := hpr (by omega)
          obtain ⟨c0, _⟩ := hc6 k hlt
          have hx0 := HP.out _ (List.getElem_mem hlt)
          have N1 := Lib.hid (best_yes hbest hlt hx0)
          have N2 := Lib.hid (best_no hbest hlt)
          have hb0 := hbest.nonneg
          clear hbest hc6
          generalize ps[k].1 = x at *
          by_cases hcs : cs = []
          · subst hcs
            have hlast : lastC [] = 0 := rfl
            have hl0 : lastC [] < x := by rw [hlast]; exact hx0
            clear hlast
            by_cases hb1 : best = 0
            · have N := Lib.hid (N1.out hl0 (.inl hb1))
              have hbb : (best == 0) = true := by simpa using hb1
              clear N1 N2
              go_wp2_with fail
              go_round
              case rel => exact ⟨k + 1, x, by omega, by go_num, rfl, N.out⟩
              case measure => simp [intOf]; omega
            · have hbb : (best == 0) = false := by simpa using hb1
              by_cases hb2 : x < best
              · have N := Lib.hid (N1.out hl0 (.inr hb2))
                have hbd : decide (x < best) = true := by simpa using hb2
                clear N1 N2
                go_wp2_with fail
                go_round
                case rel => exact ⟨k + 1, x, by omega, by go_num, rfl, N.out⟩
                case measure => simp [intOf]; omega
              · have N := Lib.hid (N2.out (.inr ⟨hb1, by omega⟩))
                have hbd : decide (x < best) = false := by simpa using hb2
                clear N1 N2
                go_wp2_with fail
                go_round
                case rel => exact ⟨k + 1, best, by omega, by go_num, rfl, N.out⟩
                case measure => simp [intOf]; omega
          · have hne : 0 < cs.length := List.length_pos_iff.2 hcs
            have hA : ((cs.length : Int) == 0) = false := by simp; omega
            obtain ⟨b5, o5, rfl, _, hc5⟩ := hin5 hne
            have e5 := hc5 (cs.length - 1) (by omega)
            rw [show cs[cs.length - 1]'(by omega) = lastC cs by unfold lastC; rw [List.getLast?_eq_getElem?, List.getElem?_eq_getElem (by omega)]; rfl] at e5
            clear hc5 hin5 hcs
            generalize lastC cs = last at *
            have j0 : (0 : Int) ≤ (cs.length : Int) - 1 ∧ (cs.length : Int) - 1 < (cs.length : Int) := by omega
            have hcl2 : (1 : Int) ≤ (cs.length : Int) := by omega
            by_cases hgt : last < x
            · have hgd : decide (x > last) = true := by simpa using hgt
              by_cases hb1 : best = 0
              · have N := Lib.hid (N1.out hgt (.inl hb1))
                have hbb : (best == 0) = true := by simpa using hb1
                clear N1 N2
                go_wp2_with fail
                go_round
                case rel => exact ⟨k + 1, x, by omega, by go_num, rfl, N.out⟩
                case measure => simp [intOf]; omega
              · have hbb : (best == 0) = false := by simpa using hb1
                by_cases hb2 : x < best
                · have N := Lib.hid (N1.out hgt (.inr hb2))
                  have hbd : decide (x < best) = true := by simpa using hb2
                  clear N1 N2
                  go_wp2_with fail
                  go_round
                  case rel => exact ⟨k + 1, x, by omega, by go_num, rfl, N.out⟩
                  case measure => simp [intOf]; omega
                · have N := Lib.hid (N2.out (.inr ⟨hb1, by omega⟩))
                  have hbd : decide (x < best) = false := by simpa using hb2
                  clear N1 N2
                  go_wp2_with fail
                  go_round
                  case rel => exact ⟨k + 1, best, by omega, by go_num, rfl, N.out⟩
                  case measure => simp [intOf]; omega
            · have hgd : decide (x > last) = false := by simpa using hgt
              have N := Lib.hid (N2.out (.inl (by omega)))
              clear N1 N2
              go_wp2_with fail
              go_round
              case rel => exact ⟨k + 1, best, by omega, by go_num, rfl, N.out⟩
              case measure => simp [intOf]; omega
        · obtain rfl : k = ps.length := by omega
          rcases hbest with ⟨hb0, hb⟩ | ⟨hb0, hb1, hb2, hb3⟩
          · subst hb0
            have hNM := Lib.hid (HN.out cs HR.out (fun x => ⟨HI.out x, fun ⟨p, hp, e⟩ => by
              rw [← e]
              refine HA.out p hp ?_
              obtain ⟨t, ht, rfl⟩ := List.getElem_of_mem hp
              exact hb t ht ht⟩))
            clear hb hpr hin5
            go_wp2_with fail
            go_ret
            exact ⟨_, rfl, cs, HO.out, hNM.out, BA.out⟩
          · have hbz : (best == 0) = false := by simp; omega
            have hle : ∀ x ∈ cs, x ≤ lastC cs := rise_last HR.out
            have M := Lib.hid (filter_less ps hb1 hb2)
            have N : Hid (RiseC 0 (cs ++ [best]) ∧ (∀ x ∈ cs ++ [best], ∃ p ∈ ps, p.1 = x) ∧ (∀ p ∈ ps, p.1 ≤ lastC (cs ++ [best]) → p.1 ∈ cs ++ [best]) ∧ lastC (cs ++ [best]) = best) := by
              have hl : lastC (cs ++ [best]) = best := by simp [lastC]
              refine ⟨HR.out.snoc best hb0 (fun x hx => by have := hle x hx; omega), fun x hx => ?_, fun p hp hpl => ?_, hl⟩
              · rcases List.mem_append.1 hx with h | h
                · exact HI.out x h
                · simp at h; subst h; exact hb2
              · rw [hl] at hpl
                by_cases h : p.1 ≤ lastC cs
                · exact List.mem_append_left _ (HA.out p hp h)
                · obtain ⟨t, ht, rfl⟩ := List.getElem_of_mem hp
                  have := hb3 t ht ht (by omega)
                  have e : ps[t].1 = best := by omega
                  rw [e]; simp
            have ho2 := HO.out.alloc (.cells #[.int .u32 best] 70)
            have hcn := Lib.hid (cell_one_new wr (.int .u32 best) 70)
            have HOA := Lib.hid (OA.out.alloc (.cells #[.int .u32 best] 70))
            obtain ⟨j0, hj0, jz0, jz1, jz2⟩ := info_parts Try.info70
            clear hb1 hb2 hb3 hb0 hle hpr hin5
            go_wp2_with (at_builtin; refine wpList_append_own_at _ rfl _ _ 75 rfl w.heap.size 70 j0 _ 1 4 Try.underlying75 hj0 jz0 jz1 jz2 rfl (by decide) (.slice A5 cs.length c5) _ _ rfl ho2 ⟨wr.heap.size, 0, none⟩ 1 1 [.int .u32 best] rfl rfl hcn.out (by intro u hu; simp at hu; subst hu; rfl) (by unfold maxLen; omega) (by omega) (by simp; omega) ?_; intro v2 w2 o2 g2 _ _)
            go_roundg (ps.filter fun p => decide (best < p.1)).length
            case measure => have := M.out; have := HG.out; omega
            case rel =>
              refine ⟨cs ++ [best], by simpa [u32s] using o2, N.out.1, N.out.2.1, N.out.2.2.1, by rw [N.out.2.2.2]; exact Nat.le_refl _, own_grown HOA.out g2 (own_ne2 HOA.out ho2), (BA.out.alloc hbs _).grown g2 (by simp; omega) (fun x hx => own_base ho2 hx)⟩
end Go.Proofs.Ytihddficgpjgpaa
namespace Go.Proofs.Ytihddficgpjgpaa
open Go.RowKit Go.ChangeShapes Go.WideShapes Go.Shelf
def RAt (l : Lab) (c : Int) (vi : Value) : Prop := ∃ k : Nat, k ≤ l.ps.length ∧ vi = .int .i64 k ∧ atP l.d (l.ps.drop k) c = l.lv c
set_option maxRecDepth 100000 in
set_option maxHeartbeats 800000 in
theorem rat_any (v : Value) (l : Lab) (c : Int) (w : World) (h : LabV w w.heap.size v l) (hl : l.ps.length ≤ 1000000) :
    Calls Try.prog 81 #[v, .int .u32 c] w fun e w' => e = .returned (.int .i64 (l.lv c)) ∧ Below w.heap.size w w' := by
  obtain ⟨A, cp, rfl, hp, hcp⟩ := h
  have b0 := (Below.refl w.heap.size w).alloc (Nat.le_refl _) (.cells #[.int .i64 l.d, .slice A l.ps.length cp] 39)
  have k0 := Blk.new w 39 #[.int .i64 l.d, .slice A l.ps.length cp]
  have hp1 := hp.below b0
  go_enter Try.func81, Try.ntmps81
  go_wp2_with fail
  generalize w.alloc (.cells #[.int .i64 l.d, .slice A l.ps.length cp] 39) = w1 at *
  have e0 := k0.cell 0
  have e1 := k0.cell 1
  simp at e0 e1
  clear k0 hp
  go_loop [5] (fun vi => RAt l c vi) (fun vi => l.ps.length - (intOf vi).toNat)
  case atStart => exact ⟨0, Nat.zero_le _, rfl, rfl⟩
  case round =>
    obtain ⟨k, hk, rfl, he⟩ := hrel
    by_cases hlt : k < l.ps.length
    · rw [List.drop_eq_getElem_cons hlt, atP] at he
      obtain ⟨b, off, rfl, hb, hc⟩ := hp1 (by omega)
      obtain ⟨c0, c1⟩ := hc k hlt
      by_cases hcat : l.ps[k].1 = c
      · rw [if_pos hcat] at he
        rw [hcat] at c0
        have HE := Lib.hid he
        clear he hc hcat hp1
        generalize l.ps[k].2 = lev at *
        go_wp2_with fail
        go_ret
        exact ⟨ret_int HE.out, b0⟩
      · rw [if_neg hcat] at he
        have hcb : (l.ps[k].1 == c) = false := by simpa using hcat
        have HE := Lib.hid he
        clear he hc hcat
        generalize l.ps[k] = pr at *
        obtain ⟨cat, lev⟩ := pr
        simp only at c0 c1 hcb
        go_wp2_with fail
        go_round
        case rel => exact ⟨k + 1, by omega, by go_num, HE.out⟩
        case measure => simp [intOf]; omega
    · rw [List.drop_eq_nil_of_le (by omega), atP] at he
      have HE := Lib.hid he
      clear he
      go_wp2_with fail
      go_ret
      exact ⟨ret_int HE.out, b0⟩
end Go.Proofs.Ytihddficgpjgpaa
namespace Go.Proofs.Ytihddficgpjgpaa
open Go.RowKit Go.ChangeShapes Go.WideShapes Go.Shelf
def makeP (d : Int) (cs : List Int) (g : Int → Int) : List (Int × Int) := (cs.map fun c => (c, g c)).filter fun p => decide (p.2 ≠ d)
theorem makeP_snoc (d : Int) (cs : List Int) (g : Int → Int) (c : Int) : makeP d (cs ++ [c]) g = if g c = d then makeP d cs g else makeP d cs g ++ [(c, g c)] := by
  unfold makeP
  rw [List.map_append, List.filter_append]
  split <;> rename_i h <;> simp [h]
theorem makeP_length (d : Int) (cs : List Int) (g : Int → Int) : (makeP d cs g).length ≤ cs.length := by
  unfold makeP
  exact Nat.le_trans (List.length_filter_le _ _) (by simp)
def RMake (w : World) (Ac Al : Option Addr) (d : Int) (cs : List Int) (g : Int → Int) (v : Value) (wr : World) : Prop :=
  ∃ (k : Nat) (A : Option Addr) (c : Nat), k ≤ cs.length ∧ v = .int .i64 k ∧ Blk wr (w.heap.size + 1) 39 #[.int .i64 d, .slice A (makeP d (cs.take k) g).length c] ∧ wr.ownsRow w.heap.size 90 2 (.slice A (makeP d (cs.take k) g).length c) (makeP d (cs.take k) g).length (pcells (makeP d (cs.take k) g)) ∧
    Blk wr w.heap.size 39 #[.int .i64 0, .slice none 0 0] ∧ IntsAt .u32 wr w.heap.size Ac cs ∧ IntsAt .i64 wr w.heap.size Al (cs.map g) ∧ Below w.heap.size w wr
theorem cell_grown {a w : World} {row : Option Nat} (h : a.grownBy w row) {b o : Nat} (hb : b < a.heap.size) (hne : some b ≠ row) : w.cell? ⟨b, o, none⟩ = a.cell? ⟨b, o, none⟩ := World.cell?_of_block (h.block b hb hne)
theorem reads_new2 (W : World) (u v : Value) (t : TypeId) : Reads (W.alloc (.cells #[u, v] t)) (W.heap.size + 1) 2 (some ⟨W.heap.size, 0, none⟩) 1 [u, v] :=
  ⟨rfl, fun _ => ⟨_, rfl, Nat.lt_succ_self _, fun j x hx => by
    rw [add_none, Nat.zero_add]
    refine ((Blk.new W t #[u, v]).cell j).trans ?_
    rw [← hx]; simp⟩⟩
set_option maxRecDepth 100000 in
set_option maxHeartbeats 1600000 in
theorem make_any (Ac Al : Option Addr) (cc cl : Nat) (d : Int) (cs : List Int) (g : Int → Int) (w : World) (hc : IntsAt .u32 w w.heap.size Ac cs) (hl : IntsAt .i64 w w.heap.size Al (cs.map g)) (hlen : cs.length ≤ 100000) :
    Calls Try.prog 114 #[.int .i64 d, .slice Ac cs.length cc, .slice Al cs.length cl] w fun e w' => ∃ v, e = .returned v ∧ LabV w' w'.heap.size v (makeL d cs g) ∧ Below w.heap.size w w' := by
  obtain ⟨i0, hi0, hz0, hz1, hz2⟩ := info_parts Try.info90
  have b0 := ((Below.refl w.heap.size w).alloc (Nat.le_refl _) (.cells #[.int .i64 0, .slice none 0 0] 39)).alloc (by simp) (.cells #[.int .i64 d, .slice none 0 0] 39)
  have k6 := (Blk.new w 39 #[.int .i64 0, .slice none 0 0]).alloc (.cells #[.int .i64 d, .slice none 0 0] 39)
  have k7 := Blk.new (w.alloc (.cells #[.int .i64 0, .slice none 0 0] 39)) 39 #[.int .i64 d, .slice none 0 0]
  rw [World.size_alloc] at k7
  have r0 : RMake w Ac Al d cs g (.int .i64 0) ((w.alloc (.cells #[.int .i64 0, .slice none 0 0] 39)).alloc (.cells #[.int .i64 d, .slice none 0 0] 39)) :=
    ⟨0, none, 0, Nat.zero_le _, rfl, k7, World.ownsRow_nil _ _ _ _, k6, hc.below b0, hl.below b0, b0⟩
  clear hc hl b0 k6 k7
  go_enter Try.func114, Try.ntmps114
  go_wp2_with fail
  generalize (w.alloc (.cells #[.int .i64 0, .slice none 0 0] 39)).alloc (.cells #[.int .i64 d, .slice none 0 0] 39) = w1 at *
  go_loopw [8] (fun v wr => RMake w Ac Al d cs g v wr) (fun v _ => cs.length - (intOf v).toNat)
  case atStart => exact r0
  case round =>
    clear r0
    obtain ⟨k, A, c, hk, rfl, k7, ho, k6, hc, hl, hb⟩ := hrel
    have hml : (makeP d (cs.take k) g).length ≤ 100000 := Nat.le_trans (makeP_length _ _ _) (by simp; omega)
    by_cases hlt : k < cs.length
    · obtain ⟨bc, oc, rfl, hbc, hcc⟩ := hc (by omega)
      obtain ⟨bl, ol, rfl, hbl, hcl⟩ := hl (by simpa using (by omega : 0 < cs.length))
      have c0 := hcc k hlt
      have c1 := hcl k (by simpa using hlt)
      have hm := makeP_snoc d (cs.take k) g cs[k]
      rw [← List.take_succ_eq_append_getElem hlt] at hm
      simp only [List.getElem_map] at c1
      have HC := Lib.hid hc
      have HL := Lib.hid hl
      have K7 := Lib.hid k7
      have K6 := Lib.hid k6
      have HO := Lib.hid ho
      have HB := Lib.hid hb
      have ML := Lib.hid hml
      have q1 := k7.cell 1
      simp at q1
      have hbs := hb.size
      have i0' : (0 : Int) ≤ (k : Int) ∧ (k : Int) < (cs.length : Int) := by omega
      clear hc hl k7 k6 ho hb hcc hcl hml
      generalize cs[k] = x at *
      by_cases hd : g x = d
      · rw [if_pos hd] at hm
        have HM := Lib.hid hm
        have hdb : (g x != d) = false := by simpa using hd
        clear hm hd
        go_wp2_with fail
        go_roundw
        case rel => exact ⟨k + 1, A, c, by omega, by go_num, by rw [HM.out]; exact K7.out, by rw [HM.out]; exact HO.out, K6.out, HC.out, HL.out, HB.out⟩
        case measure => simp [intOf]; omega
      · rw [if_neg hd] at hm
        have HM := Lib.hid hm
        have hdb : (g x != d) = true := bne_iff_ne.2 hd
        clear hm hd
        go_wp2_with fail
        have q2 := (K7.out.alloc (.cells #[.int .u32 x, .int .i64 (g x)] 90))
        have ho1 := HO.out.alloc (.cells #[.int .u32 x, .int .i64 (g x)] 90)
        have HO1 := Lib.hid ho1
        have Q2 := Lib.hid q2
        have HOB : Hid (∀ b, (Value.slice A (makeP d (cs.take k) g).length c).ownBlock = some b → w.heap.size ≤ b) := fun b hb => (own_row_blk HO.out hb).1
        have z1 := q2.cell 1
        simp at z1
        have z2 := (World.cell?_alloc_lt wr (.cells #[.int .u32 x, .int .i64 (g x)] 90) ⟨bc, oc + k, none⟩ (by show bc < _; omega)).trans c0
        have z3 := (World.cell?_alloc_lt wr (.cells #[.int .u32 x, .int .i64 (g x)] 90) ⟨bl, ol + k, none⟩ (by show bl < _; omega)).trans c1
        clear q2 ho1
        go_region_law (refine step_append_any _ rfl (.tmp 24) (.tmp 34) 37 rfl w.heap.size 90 i0 _ 2 16 Try.underlying37 hi0 hz0 hz1 hz2 rfl (by decide) (.slice A (makeP d (cs.take k) g).length c) _ _ (by rfl) HO1.out _ _ 1 1 [.int .u32 x, .int .i64 (g x)] (by rfl) ((reads_new2 wr _ _ 90).keep (fun _ _ => rfl)) (pair_one x (g x)) (by unfold maxLen; have := ML.out; omega) (by have := ML.out; omega) (by simp; omega) ?_; intro v2 w2 o2 g2 a2; obtain ⟨A2, c2, rfl⟩ := own_slice o2; have kk := Q2.out.drew.grown g2 (own_ne HO1.out Q2.out (by decide)); have p0 := (cell_grown g2 (b := bc) (o := oc + k) (by show bc < (wr.alloc _).heap.size; simp; omega) (fun e => by have := HOB.out bc e.symm; omega)).trans ((World.cell?_alloc_lt wr _ _ (by show bc < _; omega)).trans c0); have p1 := (cell_grown g2 (b := bl) (o := ol + k) (by show bl < (wr.alloc _).heap.size; simp; omega) (fun e => by have := HOB.out bl e.symm; omega)).trans ((World.cell?_alloc_lt wr _ _ (by show bl < _; omega)).trans c1); have p2 := kk.cell 1; have f2 := kk.frozen 1; simp at p2)
        all_goals
          have HX := Lib.hid (kk.set_ 1 (.slice A2 ((makeP d (cs.take k) g).length + 1) c2))
          have HK6 := Lib.hid (((K6.out.alloc (.cells #[.int .u32 x, .int .i64 (g x)] 90)).drew.grown g2 (own_ne HO1.out (K6.out.alloc _) (by decide))).far (p := ⟨w.heap.size + 1, 1, none⟩) (by show w.heap.size ≠ w.heap.size + 1; omega) (.slice A2 ((makeP d (cs.take k) g).length + 1) c2))
          have HO2 := Lib.hid (own_set o2 kk (by decide) (i := 1) (.slice A2 ((makeP d (cs.take k) g).length + 1) c2))
          have HB2 := Lib.hid (((below_drewN (HB.out.alloc hbs (.cells #[.int .u32 x, .int .i64 (g x)] 90)) 1).grown g2 (by show _ ≤ (wr.alloc _).heap.size; simp; omega) (fun b hb => HOB.out b hb)).setCell (p := ⟨w.heap.size + 1, 1, none⟩) (by show w.heap.size ≤ w.heap.size + 1; omega) (.slice A2 ((makeP d (cs.take k) g).length + 1) c2))
          have hkeep : ∀ p : Addr, p.block < w.heap.size → ((w2.setCell ⟨w.heap.size + 1, 1, none⟩ (.slice A2 ((makeP d (cs.take k) g).length + 1) c2)).cell? p = wr.cell? p) := fun p hp => by
            refine (World.cell?_setCell_other _ _ _ _ (by intro e; subst e; have : w.heap.size + 1 < w.heap.size := hp; omega)).trans ?_
            refine (World.cell?_of_block (g2.block p.block (by show p.block < (wr.alloc _).heap.size; simp; omega) (fun e => by have := HOB.out p.block e.symm; omega))).trans ?_
            exact World.cell?_alloc_lt wr _ _ (by omega)
          have HK := Lib.hid hkeep
          have hml2 : (makeP d (cs.take (k + 1)) g).length = (makeP d (cs.take k) g).length + 1 := by rw [HM.out]; simp
          have HM2 := Lib.hid hml2
          clear kk p0 p1 p2 f2 o2 a2 hkeep hml2 q1 c0 c1 z1 z2 z3
          go_wp2_with fail
          go_roundw
          case rel =>
            refine ⟨k + 1, A2, c2, by omega, by go_num, ?_, ?_, HK6.out, HC.out.keep (fun p hp => HK.out p hp), HL.out.keep (fun p hp => HK.out p hp), HB2.out⟩
            · rw [HM2.out]; exact HX.out
            · rw [HM2.out, HM.out, pcells_snoc]; exact HO2.out
          case measure => simp [intOf]; omega
    · obtain rfl : k = cs.length := by omega
      rw [List.take_length] at k7 ho
      have hm : (makeL d cs g).ps = makeP d cs g := rfl
      have hS := stored_of (w := w) (l := makeL d cs g) k6 (own_pairs ho) (own_cap ho) hb (by omega)
      have HS := Lib.hid hS
      have e0 := k7.cell 0
      have e1 := k7.cell 1
      have e2 := k6.cell 0
      have e3 := k6.cell 1
      have f2 := k6.frozen 0
      have f3 := k6.frozen 1
      simp at e0 e1 e2 e3
      clear hS k7 ho k6 hc hl hb hm
      go_wp2
      refine bodyPost_ret (results_cell_row rfl _ _ w.heap.size 39 #[.int .i64 (makeL d cs g).d, .slice A (makeL d cs g).ps.length c] (0, 0) _ (by rfl) HS.out.blk Try.underlying39 rfl (by kernel_rfl)) rfl ?_
      exact ⟨_, rfl, HS.out.lab, HS.out.bl⟩
end Go.Proofs.Ytihddficgpjgpaa
namespace Go.Proofs.Ytihddficgpjgpaa
open Go.RowKit Go.ChangeShapes Go.WideShapes Go.Shelf
theorem Try.info3 : (Try.prog.info? 3).map (fun i => (i.zero, i.size, i.bytes)) = some (some (.int .i64 0), 1, 8) := by kernel_rfl
def i64s (l : List Int) : List Value := l.map (Value.int .i64)
theorem LabB.labV {w : World} {g B : Nat} {l : Lab} (h : LabB w g B l) (hB : B ≤ w.heap.size) : ∃ A c, Blk w g 39 #[.int .i64 l.d, .slice A l.ps.length c] ∧ LabV w w.heap.size (.agg #[.int .i64 l.d, .slice A l.ps.length c]) l := by
  obtain ⟨A, c, h1, h2, h3⟩ := h
  exact ⟨A, c, h1, A, c, rfl, h2.more hB, h3⟩
theorem names_length {a b : Lab} {cs : List Int} (h : Names a b cs) {n : Nat} (hl : a.ps.length + b.ps.length ≤ n) : cs.length ≤ n := by
  have h1 := rise_len (ps := a.ps ++ b.ps) h.1 (fun x hx => by
    rcases (h.2 x).1 hx with ⟨p, hp, e⟩ | ⟨p, hp, e⟩
    · exact ⟨p, List.mem_append_left _ hp, e⟩
    · exact ⟨p, List.mem_append_right _ hp, e⟩)
  have h2 := Nat.le_trans h1 (List.length_filter_le _ _)
  rw [List.length_append] at h2
  omega
theorem LabV.keep2 {wr w2 : World} {v : Value} {l : Lab} (h : LabV wr wr.heap.size v l) (hb : Below wr.drew.heap.size wr.drew w2) : LabV w2 w2.heap.size v l := by
  obtain ⟨A, c, h1, h2, h3⟩ := h
  exact ⟨A, c, h1, (h2.keep (w' := w2) (fun p hp => hb.cell hp)).more hb.size, h3⟩
theorem own_blw {w w' : World} {B n size : Nat} {e : TypeId} {v : Value} {xs : List Value} (h : w.ownsRow B e size v n xs) (hb : Below w.heap.size w w') : w'.ownsRow B e size v n xs := by
  refine ⟨h.1, ?_⟩
  rcases h.2 with h1 | ⟨g', cap, cur, h0, h1, h2, h3⟩
  · exact .inl h1
  · exact .inr ⟨g', cap, cur, h0, h1, Blk.below (g := g') h2 hb (Blk.lt (g := g') h2), h3⟩
theorem LabB.drew_ {w : World} {g B : Nat} {l : Lab} (h : LabB w g B l) : LabB w.drew g B l := h
end Go.Proofs.Ytihddficgpjgpaa
