/- label.At, label.With. -/
import Derived.Test.YtihddficgpjgpaaFind
import Derived.Test.YtihddficgpjgpaaDel
import Derived.Test.YtihddficgpjgpaaTurn
import Derived.Deep.RegionHeld3
import Derived.Deep.DeepCutAuto
import Derived.Deep.CutBlock
namespace Go.Proofs.Ytihddficgpjgpaa
open Go.RowKit Go.ChangeShapes Go.WideShapes Go.Shelf

theorem atP_skip (d c : Int) : ∀ (l r : List (Int × Int)), (∀ p ∈ l, p.1 < c) → atP d (l ++ r) c = atP d r c
  | [], _, _ => rfl
  | p :: t, r, h => by
    have h0 := h p (by simp)
    rw [List.cons_append, atP, if_neg (by omega)]
    exact atP_skip d c t r (fun q hq => h q (by simp [hq]))
theorem withP_skip (d c v : Int) : ∀ (l r : List (Int × Int)), (∀ p ∈ l, p.1 < c) → withP d c v (l ++ r) = l ++ withP d c v r
  | [], _, _ => rfl
  | p :: t, r, h => by
    rw [List.cons_append, withP, if_pos (h p (by simp)), withP_skip d c v t r (fun q hq => h q (by simp [hq]))]; rfl
theorem low_take {ps : List (Int × Int)} {c : Int} {i : Nat} (h : IsLow ps c i) : ∀ p ∈ ps.take i, p.1 < c := fun p hp => by
  obtain ⟨t, ht, rfl⟩ := List.getElem_of_mem hp
  simp at ht
  rw [List.getElem_take]
  exact h.2.1 t (by omega) (by omega)
theorem at_low (d : Int) {ps : List (Int × Int)} {c : Int} {i : Nat} (h : IsLow ps c i) (hr : Rise 0 ps) :
    (∀ (hi : i < ps.length), ps[i].1 = c → atP d ps c = ps[i].2) ∧ (¬ (∃ hi : i < ps.length, ps[i].1 = c) → atP d ps c = d) := by
  refine ⟨fun hi e => ?_, fun hn => ?_⟩
  · rw [← e]; exact atP_mem d hr _ (List.getElem_mem hi)
  · refine atP_none d fun p hp e => hn ?_
    obtain ⟨t, ht, rfl⟩ := List.getElem_of_mem hp
    rcases Nat.lt_trichotomy t i with h1 | h1 | h1
    · have := h.2.1 t ht h1; omega
    · subst h1; exact ⟨ht, e⟩
    · have h2 := h.2.2 i (by omega) (Nat.le_refl _)
      have h3 := rise_pair hr i t (by omega) ht (by omega)
      exact ⟨by omega, by omega⟩
theorem with_low (d v : Int) {ps : List (Int × Int)} {c : Int} {i : Nat} (h : IsLow ps c i) :
    (∀ (hi : i < ps.length), ps[i].1 = c → withP d c v ps = if v = d then ps.take i ++ ps.drop (i + 1) else ps.take i ++ (c, v) :: ps.drop (i + 1)) ∧
    (¬ (∃ hi : i < ps.length, ps[i].1 = c) → withP d c v ps = if v = d then ps else ps.take i ++ (c, v) :: ps.drop i) := by
  have hs := withP_skip d c v (ps.take i) (ps.drop i) (low_take h)
  rw [List.take_append_drop] at hs
  refine ⟨fun hi e => ?_, fun hn => ?_⟩
  · rw [hs, List.drop_eq_getElem_cons hi, withP, if_neg (by omega), if_pos e]
    split <;> rfl
  · by_cases hi : i < ps.length
    · have h2 := h.2.2 i hi (Nat.le_refl _)
      rw [hs, List.drop_eq_getElem_cons hi, withP, if_neg (by omega), if_neg (fun e => hn ⟨hi, e⟩), ← List.drop_eq_getElem_cons hi]
      split
      · exact List.take_append_drop _ _
      · rfl
    · rw [hs, List.drop_eq_nil_of_le (by omega), withP]
      split
      · rw [List.append_nil, List.take_of_length_le (by omega)]
      · rfl

set_option maxHeartbeats 400000 in
theorem at_any (v : Value) (l : Lab) (c : Int) (w : World) (h : LabV w w.heap.size v l) (hl : l.ps.length ≤ 100000) (hg : Good l) :
    Calls Try.prog 51 #[v, .int .u32 c] w fun e w' => e = .returned (.int .i64 (l.lv c)) ∧ Below w.heap.size w w' := by
  obtain ⟨A, cp, rfl, hp, hcp⟩ := h
  have b0 := (Below.refl w.heap.size w).alloc (Nat.le_refl _) (.cells #[.int .i64 l.d, .slice A l.ps.length cp] 39)
  have k0 := Blk.new w 39 #[.int .i64 l.d, .slice A l.ps.length cp]
  go_enter Try.func51, Try.ntmps51
  go_wp2_with fail
  have hp2 := (hp.below b0)
  generalize w.alloc (.cells #[.int .i64 l.d, .slice A l.ps.length cp] 39) = w1 at *
  refine (find_any _ l c w1 ⟨A, cp, rfl, hp2.more b0.size, hcp⟩ hl hg).mono ?_
  rintro e w2 ⟨i, hi, rfl, hb⟩
  have k2 := k0.below hb k0.lt
  have e0 := k2.cell 0
  have e1 := k2.cell 1
  simp at e0 e1
  have hp3 := hp2.keep (w' := w2) (fun p hp => hb.cell (by have := b0.size; omega))
  have HB := Lib.hid (b0.trans (hb.mono b0.size))
  obtain ⟨a1, a2⟩ := at_low l.d hi hg.rise
  clear hp hp2 hb b0 k0 k2
  by_cases hf : ∃ h : i < l.ps.length, l.ps[i].1 = c
  · obtain ⟨hi2, he⟩ := hf
    have A1 := Lib.hid (show l.lv c = l.ps[i].2 from a1 hi2 he)
    have hd : (decide (∃ h : i < l.ps.length, l.ps[i].1 = c)) = true := by simp; exact ⟨hi2, he⟩
    obtain ⟨b, off, rfl, hbB, hc⟩ := hp3 (by omega)
    obtain ⟨c0, c1⟩ := hc i hi2
    rw [hd]
    clear a1 a2 hc hp3 hi hd he
    generalize l.ps[i] = pr at *
    obtain ⟨cat, lev⟩ := pr
    simp only at c0 c1
    go_wp2_with fail
    go_ret
    exact ⟨ret_int A1.out.symm, HB.out⟩
  · have A1 := Lib.hid (show l.lv c = l.d from a2 hf)
    have hd : (decide (∃ h : i < l.ps.length, l.ps[i].1 = c)) = false := by simpa using hf
    rw [hd]
    clear a1 a2 hp3 hi hd hf
    go_wp2_with fail
    go_ret
    exact ⟨ret_int A1.out.symm, HB.out⟩

/-- Behind the first region of label.With: the label that is being made. -/
def With1 (w : World) (g3 g6 : Nat) (l : Lab) (v : Value) (W : World) : Prop :=
  ∃ (go c : Nat) (A : Option Addr), v = .pointer (some ⟨go, 0, none⟩) ∧ Blk W go 39 #[.int .i64 l.d, .slice A l.ps.length c] ∧ W.ownsRow w.heap.size 90 2 (.slice A l.ps.length c) l.ps.length (pcells l.ps) ∧
    (∃ A' c', Blk W g3 39 #[.int .i64 l.d, .slice A' l.ps.length c']) ∧ Blk W g6 39 #[.int .i64 0, .slice none 0 0] ∧ Below w.heap.size w W ∧ w.heap.size ≤ go ∧ go ≠ g3 ∧ go ≠ g6

theorem own_below {w w' : World} {B n size : Nat} {e : TypeId} {v : Value} {xs : List Value} (h : w.ownsRow B e size v n xs) (hb : Below w.heap.size w w') : w'.ownsRow B e size v n xs := by
  refine ⟨h.1, ?_⟩
  rcases h.2 with h1 | ⟨g', cap, cur, h0, h1, h2, h3⟩
  · exact .inl h1
  · exact .inr ⟨g', cap, cur, h0, h1, Blk.below (g := g') h2 hb (Blk.lt (g := g') h2), h3⟩
theorem pcells_append (a b : List (Int × Int)) : pcells (a ++ b) = pcells a ++ pcells b := by simp [pcells]
theorem pcells_take : ∀ (l : List (Int × Int)) (i : Nat), (pcells l).take (i * 2) = pcells (l.take i)
  | [], i => by simp [pcells]
  | p :: t, 0 => by simp [pcells]
  | p :: t, i + 1 => by
    have := pcells_take t i
    have e : pcells (p :: t) = .int .u32 p.1 :: .int .i64 p.2 :: pcells t := by simp [pcells]
    rw [e, show (i + 1) * 2 = i * 2 + 1 + 1 by omega, List.take_succ_cons, List.take_succ_cons, this]
    simp [pcells]
theorem pcells_drop : ∀ (l : List (Int × Int)) (i : Nat), (pcells l).drop (i * 2) = pcells (l.drop i)
  | [], i => by simp [pcells]
  | p :: t, 0 => by simp
  | p :: t, i + 1 => by
    have := pcells_drop t i
    have e : pcells (p :: t) = .int .u32 p.1 :: .int .i64 p.2 :: pcells t := by simp [pcells]
    rw [e, show (i + 1) * 2 = i * 2 + 1 + 1 by omega, List.drop_succ_cons, List.drop_succ_cons, this]
    simp
theorem pcells_set (l : List (Int × Int)) (i : Nat) (hi : i < l.length) (v : Int) : (pcells l).set (i * 2 + 1) (.int .i64 v) = pcells (l.take i ++ (l[i].1, v) :: l.drop (i + 1)) := by
  have e : l = l.take i ++ l[i] :: l.drop (i + 1) := by rw [← List.drop_eq_getElem_cons hi, List.take_append_drop]
  have e2 : pcells l = pcells (l.take i) ++ (.int .u32 l[i].1 :: .int .i64 l[i].2 :: pcells (l.drop (i + 1))) := by
    conv => lhs; rw [e]
    rw [pcells_append]
    rfl
  have hl : (pcells (l.take i)).length = i * 2 := by rw [pcells_length]; simp; omega
  rw [e2, List.set_append_right _ _ (by omega), hl, show i * 2 + 1 - i * 2 = 1 by omega, pcells_append]
  simp [pcells]

/-- Behind the switch of label.With. -/
def With2 (w : World) (go g6 : Nat) (r : Lab) (W : World) : Prop :=
  ∃ (A : Option Addr) (c : Nat), Blk W go 39 #[.int .i64 r.d, .slice A r.ps.length c] ∧ PairsAt W W.heap.size A r.ps ∧ r.ps.length ≤ c ∧ Blk W g6 39 #[.int .i64 0, .slice none 0 0] ∧ Below w.heap.size w W
/-- A row stored into the label's variable. -/
theorem with2_store {w W : World} {go g6 n c n0 c0 : Nat} {A A0 : Option Addr} {r : Lab} (kg : Blk W go 39 #[.int .i64 r.d, .slice A0 n0 c0]) (ho : W.ownsRow w.heap.size 90 2 (.slice A n c) n (pcells r.ps)) (hn : n = r.ps.length) (k6 : Blk W g6 39 #[.int .i64 0, .slice none 0 0]) (hb : Below w.heap.size w W) (hgo : w.heap.size ≤ go) (hne : go ≠ g6) :
    With2 w go g6 r (W.setCell ⟨go, 1, none⟩ (.slice A n c)) := by
  subst hn
  have h := own_set ho kg (by decide) (i := 1) (.slice A r.ps.length c)
  exact ⟨A, c, kg.set_ 1 _, own_pairs h, own_cap h, k6.far (by show g6 ≠ go; omega) _, hb.setCell (p := ⟨go, 1, none⟩) hgo _⟩
theorem with1_a {w w1 W : World} {l : Lab} {A A2 : Option Addr} {cp c2 : Nat} (hB : Below w.heap.size w w1) (k3 : Blk w1 w.heap.size 39 #[.int .i64 l.d, .slice A l.ps.length cp]) (k6 : Blk w1 (w.heap.size + 1) 39 #[.int .i64 0, .slice none 0 0])
    (b2 : Below w1.drew.heap.size w1.drew W) (o2 : W.ownsRow w1.drew.heap.size 90 2 (.slice A2 l.ps.length c2) l.ps.length (pcells l.ps)) :
    With1 w w.heap.size (w.heap.size + 1) l (.pointer (some ⟨W.heap.size, 0, none⟩)) (W.alloc (.cells #[.int .i64 l.d, .slice A2 l.ps.length c2] 39)) := by
  have j3 := k3.drew.below b2 k3.lt
  have j6 := k6.drew.below b2 k6.lt
  have h1 := j3.lt
  have h2 := j6.lt
  have hs : w.heap.size ≤ w1.drew.heap.size := hB.size
  refine ⟨W.heap.size, c2, A2, rfl, Blk.new W 39 _, (own_mono o2 hs).alloc _, ⟨A, cp, j3.alloc _⟩, j6.alloc _, ((below_drewN hB 1).trans (b2.mono hs)).alloc (Nat.le_trans hs b2.size) _, by omega, by omega, by omega⟩
theorem with1_b {w w1 W : World} {l : Lab} {A A2 : Option Addr} {cp c2 : Nat} (hB : Below w.heap.size w w1) (k3 : Blk w1 w.heap.size 39 #[.int .i64 l.d, .slice A l.ps.length cp]) (k6 : Blk w1 (w.heap.size + 1) 39 #[.int .i64 0, .slice none 0 0])
    (b2 : Below (w1.alloc (.cells #[.int .i64 0, .slice none 0 0] 39)).drew.heap.size (w1.alloc (.cells #[.int .i64 0, .slice none 0 0] 39)).drew W) (o2 : W.ownsRow (w1.alloc (.cells #[.int .i64 0, .slice none 0 0] 39)).drew.heap.size 90 2 (.slice A2 l.ps.length c2) l.ps.length (pcells l.ps)) :
    With1 w w.heap.size (w.heap.size + 1) l (.pointer (some ⟨w1.heap.size, 0, none⟩)) ((W.setCell ⟨w1.heap.size, 0, none⟩ (.int .i64 l.d)).setCell ⟨w1.heap.size, 1, none⟩ (.slice A2 l.ps.length c2)) := by
  have j3 := (k3.alloc (.cells #[.int .i64 0, .slice none 0 0] 39)).drew.below b2 (k3.alloc _).lt
  have j6 := (k6.alloc (.cells #[.int .i64 0, .slice none 0 0] 39)).drew.below b2 (k6.alloc _).lt
  have j7 := (Blk.new w1 39 #[.int .i64 0, .slice none 0 0]).drew.below b2 (Blk.new w1 39 #[.int .i64 0, .slice none 0 0]).lt
  have h1 := k3.lt
  have h2 := k6.lt
  have hs : w.heap.size ≤ (w1.alloc (.cells #[.int .i64 0, .slice none 0 0] 39)).drew.heap.size := by show _ ≤ (w1.alloc _).heap.size; simp; have := hB.size; omega
  have hB2 : Below w.heap.size w W := (below_drewN (hB.alloc hB.size (.cells #[.int .i64 0, .slice none 0 0] 39)) 1).trans (b2.mono hs)
  have i7 : Blk (W.setCell ⟨w1.heap.size, 0, none⟩ (.int .i64 l.d)) w1.heap.size 39 #[.int .i64 l.d, .slice none 0 0] := j7.set_ 0 _
  refine ⟨w1.heap.size, c2, A2, rfl, i7.set_ 1 _, own_set (own_set (own_mono o2 hs) j7 (by decide) _) i7 (by decide) _, ⟨A, cp, (j3.far (by show w.heap.size ≠ w1.heap.size; omega) _).far (by show w.heap.size ≠ w1.heap.size; omega) _⟩, (j6.far (by show w.heap.size + 1 ≠ w1.heap.size; omega) _).far (by show w.heap.size + 1 ≠ w1.heap.size; omega) _,
    (hB2.setCell (p := ⟨w1.heap.size, 0, none⟩) hB.size _).setCell (p := ⟨w1.heap.size, 1, none⟩) hB.size _, by omega, by omega, by omega⟩

set_option maxRecDepth 100000 in
set_option maxHeartbeats 1600000 in
theorem with_any (va : Value) (l : Lab) (c v : Int) (w : World) (h : LabV w w.heap.size va l) (hl : l.ps.length ≤ 100000) (hg : Good l) :
    Calls Try.prog 50 #[va, .int .u32 c, .int .i64 v] w fun e w' => ∃ x, e = .returned x ∧ LabV w' w'.heap.size x (withL l c v) ∧ Below w.heap.size w w' := by
  obtain ⟨A, cp, rfl, hp, hcp⟩ := h
  have b0 := (Below.refl w.heap.size w).alloc (Nat.le_refl _) (.cells #[.int .i64 l.d, .slice A l.ps.length cp] 39)
  have s0 : (w.alloc (.cells #[.int .i64 l.d, .slice A l.ps.length cp] 39)).heap.size = w.heap.size + 1 := by simp
  have k3 := (Blk.new w 39 #[.int .i64 l.d, .slice A l.ps.length cp]).alloc (.cells #[.int .i64 0, .slice none 0 0] 39)
  have k6 := Blk.new (w.alloc (.cells #[.int .i64 l.d, .slice A l.ps.length cp] 39)) 39 #[.int .i64 0, .slice none 0 0]
  have b1 := b0.alloc b0.size (.cells #[.int .i64 0, .slice none 0 0] 39)
  rw [s0] at k6
  have hp1 := hp.below b1
  go_enter Try.func50, Try.ntmps50
  go_upto_region 1 with fail
  generalize (w.alloc (.cells #[.int .i64 l.d, .slice A l.ps.length cp] 39)).alloc (.cells #[.int .i64 0, .slice none 0 0] 39) = w1 at *
  clear s0 b0 hp
  go_cut [7] from 10 to 16 (fun v wx => With1 w w.heap.size (w.heap.size + 1) l v wx)
  case first =>
    have e0 := k3.cell 0
    have e1 := k3.cell 1
    simp at e0 e1
    have l3 := k3.lt
    have HP := Lib.hid hp1
    have K3 := Lib.hid k3
    have K6 := Lib.hid k6
    have HB := Lib.hid b1
    have HS : Hid (w.heap.size ≤ w1.heap.size) := b1.size
    have C1 := Lib.hid (clone_any A cp l.ps w.heap.size w1.drew (HP.out.keep (fun _ _ => rfl)) b1.size (by omega))
    have C2 := Lib.hid (clone_any A cp l.ps w.heap.size ((w1.alloc (.cells #[.int .i64 0, .slice none 0 0] 39)).drew) ((HP.out.alloc b1.size (.cells #[.int .i64 0, .slice none 0 0] 39)).keep (fun _ _ => rfl)) (by simp; have := b1.size; omega) (by omega))
    have n1 : ¬ (w1.heap.size = w.heap.size) := by omega
    have n2 : ¬ (w.heap.size = w1.heap.size) := by omega
    have n3 := World.new_ne w1 _ e0
    have n4 := World.new_ne w1 _ e1
    clear hp1 k3 k6 b1 l3
    go_region_held3 (fun w' => w'.cell? ⟨w.heap.size, 0, none⟩ = some (.int .i64 l.d) ∧ w'.cell? ⟨w.heap.size, 1, none⟩ = some (.slice A l.ps.length cp))
      (go_keep)
      (first
        | (go_at_call 102; refine C1.out.mono ?_; rintro e W ⟨v2, rfl, o2, b2⟩; obtain ⟨A2, c2, rfl⟩ := own_slice o2; have q3 := K3.out.drew.below b2 K3.out.lt; have q0 := q3.cell 0; have q1 := q3.cell 1; simp at q0 q1)
        | (go_at_call 102; refine C2.out.mono ?_; rintro e W ⟨v2, rfl, o2, b2⟩; obtain ⟨A2, c2, rfl⟩ := own_slice o2; have q3 := (K3.out.alloc (.cells #[.int .i64 0, .slice none 0 0] 39)).drew.below b2 (K3.out.alloc _).lt; have q7 := (Blk.new w1 39 #[.int .i64 0, .slice none 0 0]).drew.below b2 (Blk.new w1 39 #[.int .i64 0, .slice none 0 0]).lt; have q0 := q3.cell 0; have q1 := q3.cell 1; have q70 := q7.cell 0; have q71 := q7.cell 1; have f70 := q7.frozen 0; have f71 := q7.frozen 1; simp at q0 q1 q70 q71))
    · have HW := Lib.hid (with1_a HB.out K3.out K6.out b2 o2)
      go_wp2_with fail
      go_meet
      exact HW.out
    · have HW := Lib.hid (with1_b HB.out K3.out K6.out b2 o2)
      go_wp2_with fail
      go_meet
      exact HW.out
  case rest =>
    clear k3 k6 b1 hp1
    obtain ⟨go, c7, A7, rfl, kgo, own, ⟨A', c', kg3⟩, kg6, hb, hgo, hne3, hne6⟩ := hcut
    have e0 := kgo.cell 0
    have e1 := kgo.cell 1
    simp at e0 e1
    have hcap := own_cap own
    have HV := Lib.hid (show LabV wc wc.heap.size (.agg #[.int .i64 l.d, .slice A7 l.ps.length c7]) l from ⟨A7, c7, rfl, own_pairs own, hcap⟩)
    have HO := Lib.hid own
    have HG := Lib.hid kgo
    have H3 := Lib.hid kg3
    have H6 := Lib.hid kg6
    have HB := Lib.hid hb
    have hbs := hb.size
    clear own kgo kg3 kg6 hb hcap
    go_wp2_with fail
    refine (find_any _ l c _ HV.out hl hg).mono ?_
    rintro e w2 ⟨i, hi, rfl, hb2⟩
    have j3 := H3.out.below hb2 H3.out.lt
    have j6 := H6.out.below hb2 H6.out.lt
    have jg := HG.out.below hb2 HG.out.lt
    have jo := own_below HO.out hb2
    have jb := HB.out.trans (hb2.mono hbs)
    have hlow := Lib.hid hi
    clear H3 H6 HG HO HB HV hb2 hi e0 e1 hbs
    obtain ⟨fb, hfb⟩ : ∃ fb, decide (∃ h : i < l.ps.length, l.ps[i].1 = c) = fb := ⟨_, rfl⟩
    rw [hfb]
    have HFB := Lib.hid hfb
    clear hfb
    go_upto_block 0 with fail
    go_cut [8] from 22 to 58 (fun _ wx => With2 w go (w.heap.size + 1) (withL l c v) wx)
    case first =>
      have q0 := j3.cell 0
      have g0 := jg.cell 0
      have g1 := jg.cell 1
      have fg1 := jg.frozen 1
      simp at q0 g0 g1
      obtain ⟨w1x, w2x⟩ := with_low l.d v hlow.out
      cases fb with
      | true =>
        obtain ⟨hi2, he⟩ : ∃ h : i < l.ps.length, l.ps[i].1 = c := by simpa using HFB.out
        have hw := w1x hi2 he
        clear w1x w2x HFB
        obtain ⟨g, cur, rfl, hBg, hgb, h2, h3, h4, h5⟩ := own_blk jo (by omega)
        have HG := Lib.hid jg
        have H6 := Lib.hid j6
        have HB := Lib.hid jb
        have HJ := Lib.hid jo
        have H5 := Lib.hid h5
        by_cases hv : v = l.d
        · rw [if_pos hv] at hw
          have hvb : (v == l.d) = true := by simpa using hv
          have HW := Lib.hid hw
          have HD := Lib.hid (delete_any w.heap.size g c7 i l.ps.length cur.toList w2 hgb hBg (by simp; omega) h3 hi2 h2 (by rw [h5]; exact pcells_one _))
          clear hw hv jg j6 jb jo h5 hgb j3 h4 he
          go_wp2_with fail
          refine HD.out.mono ?_
          rintro e w3 ⟨rfl, o3, G3⟩
          have kg3 := HG.out.grown G3 (own_ne HJ.out HG.out (by decide))
          have k63 := H6.out.grown G3 (own_ne HJ.out H6.out (by decide))
          have hb3 := below_of_only HB.out G3 hBg HB.out.size
          rw [H5.out, pcells_take, pcells_drop, ← pcells_append, ← HW.out] at o3
          have e1 := kg3.cell 1
          have f1 := kg3.frozen 1
          simp at e1
          have H2 := Lib.hid (with2_store (r := withL l c v) kg3 o3 (by show _ = (withP l.d c v l.ps).length; rw [HW.out]; simp; omega) k63 hb3 hgo hne6)
          clear kg3 k63 hb3 o3 G3 HD HG H6 HJ HB q0 g0 g1 fg1
          go_wp2_with fail
          go_meet
          exact H2.out
        · rw [if_neg hv] at hw
          have hvb : (v == l.d) = false := by simpa using hv
          have hcell : w2.cell? ⟨g, i * 2 + 1, none⟩ = some (.int .i64 l.ps[i].2) := by
            rw [hgb.cell]
            have := (pcells_at l.ps i hi2).2
            rw [← h5, List.getElem?_take, if_pos (by omega)] at this
            simpa using this
          have hfr := hgb.frozen (i * 2 + 1)
          have hgne : g ≠ go := Blk.ne_ hgb jg (by decide)
          have hg6 : g ≠ w.heap.size + 1 := Blk.ne_ hgb j6 (by decide)
          have kgn : Blk (w2.setCell ⟨g, i * 2 + 1, none⟩ (.int .i64 v)) go 39 #[.int .i64 l.d, .slice (some ⟨g, 0, none⟩) l.ps.length c7] := jg.far (by show go ≠ g; exact Ne.symm hgne) _
          have k6n : Blk (w2.setCell ⟨g, i * 2 + 1, none⟩ (.int .i64 v)) (w.heap.size + 1) 39 #[.int .i64 0, .slice none 0 0] := j6.far (by show w.heap.size + 1 ≠ g; exact Ne.symm hg6) _
          have hon : (w2.setCell ⟨g, i * 2 + 1, none⟩ (.int .i64 v)).ownsRow w.heap.size 90 2 (.slice (some ⟨g, 0, none⟩) l.ps.length c7) l.ps.length (pcells (withL l c v).ps) := by
            refine own_of_blk (hgb.set_ _ _) hBg h2 h3 (by simpa using h4) ?_
            show _ = pcells (withP l.d c v l.ps)
            rw [hw, ← he, ← pcells_set l.ps i hi2, ← h5]
            simp [List.take_set]
          have hlw : (withL l c v).ps.length = l.ps.length := by show (withP l.d c v l.ps).length = _; rw [hw]; simp; omega
          have H2 : Hid (With2 w go (w.heap.size + 1) (withL l c v) (w2.setCell ⟨g, i * 2 + 1, none⟩ (.int .i64 v))) :=
            ⟨some ⟨g, 0, none⟩, c7, by rw [hlw]; exact kgn, own_pairs (by rw [hlw]; exact hon), by rw [hlw]; exact h2, k6n, jb.setCell (p := ⟨g, i * 2 + 1, none⟩) hBg _⟩
          clear hw hv jg j6 jb jo h5 hgb j3 h4 he kgn k6n hon hlw HG H6 HB HJ H5
          go_wp2_with fail
          go_meet
          exact H2.out
      | false =>
        have hf : ¬ ∃ h : i < l.ps.length, l.ps[i].1 = c := by simpa using HFB.out
        have hw := w2x hf
        clear w1x w2x HFB hf
        by_cases hv : v = l.d
        · rw [if_pos hv] at hw
          have hvb : (v == l.d) = true := by simpa using hv
          have e : withL l c v = l := Lab.eq_of rfl hw
          have H2 : Hid (With2 w go (w.heap.size + 1) (withL l c v) w2) := by
            rw [e]
            exact ⟨A7, c7, jg, own_pairs jo, own_cap jo, j6, jb⟩
          clear hw hv jg j6 jb jo j3 e
          go_wp2_with fail
          go_meet
          exact H2.out
        · rw [if_neg hv] at hw
          have hvb : (v == l.d) = false := by simpa using hv
          have HW := Lib.hid hw
          have hos : some w2.heap.size ≠ (Value.slice A7 l.ps.length c7).ownBlock := fun e => by
            obtain ⟨_, cs, hb⟩ := own_row_blk jo e.symm
            have := hb.lt
            omega
          have hjo : ∀ b, (Value.slice A7 l.ps.length c7).ownBlock = some b → w.heap.size ≤ b := fun b hb => (own_row_blk jo hb).1
          have HJO := Lib.hid hjo
          have HI := Lib.hid (insert_any w.heap.size w2.heap.size l.ps.length c7 i c v A7 (pcells l.ps) (w2.alloc (.cells #[.int .u32 c, .int .i64 v] 90)) (jo.alloc _) (pcells_one _) (Blk.new w2 90 _) hos hlow.out.1 (by omega) (by simp; have := jb.size; omega))
          have HG := Lib.hid (jg.alloc (.cells #[.int .u32 c, .int .i64 v] 90))
          have H6 := Lib.hid (j6.alloc (.cells #[.int .u32 c, .int .i64 v] 90))
          have HB := Lib.hid (jb.alloc jb.size (.cells #[.int .u32 c, .int .i64 v] 90))
          have HJ := Lib.hid (jo.alloc (.cells #[.int .u32 c, .int .i64 v] 90))
          clear hw hv jg j6 jb jo j3 hos hjo
          go_wp2_with fail
          refine HI.out.mono ?_
          rintro e w3 ⟨x, rfl, o3, G3, a3⟩
          obtain ⟨A9, c9, rfl⟩ := own_slice o3
          have kg3 := HG.out.grown G3 (own_ne HJ.out HG.out (by decide))
          have k63 := H6.out.grown G3 (own_ne HJ.out H6.out (by decide))
          have hb3 := HB.out.grown G3 HB.out.size (fun b hb => HJO.out b hb)
          have e3 : (pcells l.ps).take (i * 2) ++ [.int .u32 c, .int .i64 v] ++ (pcells l.ps).drop (i * 2) = pcells (l.ps.take i ++ (c, v) :: l.ps.drop i) := by
            rw [pcells_take, pcells_drop, pcells_append]; simp [pcells]
          rw [e3, ← HW.out] at o3
          have e1 := kg3.cell 1
          have f1 := kg3.frozen 1
          simp at e1
          have H2 := Lib.hid (with2_store (r := withL l c v) kg3 o3 (by show _ = (withP l.d c v l.ps).length; rw [HW.out]; simp; have := hlow.out.1; omega) k63 hb3 hgo hne6)
          clear kg3 k63 hb3 o3 G3 HI HG H6 HJ HB q0 g0 g1 fg1 a3 e3
          go_wp2_with fail
          go_meet
          exact H2.out
    case rest =>
      clear jg j6 jb jo j3
      obtain ⟨A9, c9, kg, hp, hc9, k6, hb⟩ := hcut
      have hS := stored_of (w := w) (l := withL l c v) k6 hp hc9 hb (by omega)
      have HS := Lib.hid hS
      have e0 := kg.cell 0
      have e1 := kg.cell 1
      have e2 := k6.cell 0
      have e3 := k6.cell 1
      have f2 := k6.frozen 0
      have f3 := k6.frozen 1
      simp at e0 e1 e2 e3
      clear hS kg k6 hp hb hc9
      go_wp2
      refine bodyPost_ret (results_cell_row rfl _ _ (w.heap.size + 1) 39 #[.int .i64 (withL l c v).d, .slice A9 (withL l c v).ps.length c9] (0, 0) _ (by rfl) HS.out.blk Try.underlying39 rfl (by kernel_rfl)) rfl ?_
      exact ⟨_, rfl, HS.out.lab, HS.out.bl⟩
end Go.Proofs.Ytihddficgpjgpaa
