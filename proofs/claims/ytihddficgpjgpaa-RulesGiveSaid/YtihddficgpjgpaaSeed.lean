/- A seed's label. -/
import Derived.Test.YtihddficgpjgpaaTurn
namespace Go.Proofs.Ytihddficgpjgpaa
open Go.RowKit Go.ChangeShapes Go.WideShapes Go.Shelf

/-- The pairs of a seed's levels, from place i on. -/
def seedP (d : Int) : Nat → List Int → List (Int × Int)
  | _, [] => []
  | i, n :: t => (if i < 12 ∧ n % 5 ≠ d then [(3 * (i : Int) + 1, n % 5)] else []) ++ seedP d (i + 1) t
theorem seedP_snoc (d : Int) (x : Int) : ∀ (l : List Int) (i : Nat), seedP d i (l ++ [x]) = seedP d i l ++ (if i + l.length < 12 ∧ x % 5 ≠ d then [(3 * ((i + l.length : Nat) : Int) + 1, x % 5)] else [])
  | [], i => by simp [seedP]
  | n :: t, i => by
    rw [List.cons_append, seedP, seedP, seedP_snoc d x t (i + 1), List.append_assoc, List.length_cons, show i + 1 + t.length = i + (t.length + 1) by omega]
theorem seedP_rise (d : Int) : ∀ (l : List Int) (i : Nat), Rise (3 * (i : Int)) (seedP d i l)
  | [], _ => True.intro
  | n :: t, i => by
    have ih := seedP_rise d t (i + 1)
    unfold seedP
    split
    · exact ⟨by simp only; omega, ih.mono (by simp only; omega)⟩
    · exact ih.mono (by omega)
theorem seedP_mem (d : Int) : ∀ (l : List Int) (i : Nat), ∀ p ∈ seedP d i l, p.2 ≠ d ∧ 0 ≤ p.2 ∧ p.2 ≤ 4 ∧ 0 < p.1 ∧ p.1 ≤ 34
  | [], _, _, h => by simp [seedP] at h
  | n :: t, i, p, h => by
    unfold seedP at h
    rcases List.mem_append.1 h with h | h
    · split at h
      · simp at h; subst h; simp only; refine ⟨by rename_i hh; exact hh.2, ?_⟩; omega
      · cases h
    · exact seedP_mem d t (i + 1) p h
theorem seedP_none (d : Int) : ∀ (l : List Int) (i : Nat), 12 ≤ i → seedP d i l = []
  | [], _, _ => rfl
  | n :: t, i, h => by
    unfold seedP
    rw [if_neg (by omega), seedP_none d t (i + 1) (by omega)]; rfl
theorem seedP_length (d : Int) : ∀ (l : List Int) (i : Nat), i ≤ 12 → (seedP d i l).length ≤ 12 - i
  | [], _, _ => by simp [seedP]
  | n :: t, i, h => by
    unfold seedP
    by_cases hi : i < 12
    · have ih := seedP_length d t (i + 1) (by omega)
      rw [List.length_append]
      split
      · simp; omega
      · simp; omega
    · rw [if_neg (by omega), seedP_none d t (i + 1) (by omega)]; simp
def seedL (D : Int) (L : List Int) : Lab := ⟨D % 4 + 1, seedP (D % 4 + 1) 0 L⟩
/-- What a seed's label is good for. -/
structure Fine (l : Lab) : Prop where
  good : Good l
  d1 : 1 ≤ l.d
  d4 : l.d ≤ 4
  lv4 : Upto 4 l
  len : l.ps.length ≤ 12
  cat : ∀ p ∈ l.ps, p.1 ≤ 34
theorem seed_fine (D : Int) (L : List Int) : Fine (seedL D L) := by
  have h := seedP_mem (D % 4 + 1) L 0
  have hd : 1 ≤ D % 4 + 1 ∧ D % 4 + 1 ≤ 4 := by omega
  exact ⟨⟨seedP_rise _ L 0, fun p hp => (h p hp).1⟩, hd.1, hd.2, upto_of ⟨by show 0 ≤ D % 4 + 1; omega, hd.2⟩ (fun p hp => ⟨(h p hp).2.1, (h p hp).2.2.1⟩), seedP_length _ L 0 (by omega), fun p hp => (h p hp).2.2.2.2⟩
theorem mod5 (n : Int) : (n.tmod 5 + 5) % 5 = n % 5 := by
  rw [Int.tmod_eq_emod]
  split <;> omega

def SeedV (w : World) (B : Nat) (v : Value) (l : Lab) : Prop := ∃ (D : Int) (L : List Int) (A : Option Addr) (c : Nat), l = seedL D L ∧ v = .agg #[.int .i64 D, .slice A L.length c] ∧ IntsAt .i64 w B A L ∧ L.length ≤ 9223372036854775807
theorem SeedV.fine {w : World} {B : Nat} {v : Value} {l : Lab} (h : SeedV w B v l) : Fine l := by obtain ⟨D, L, _, _, rfl, _⟩ := h; exact seed_fine D L
theorem SeedV.below {w w' : World} {B B' : Nat} {v : Value} {l : Lab} (h : SeedV w B v l) (hb : Below B' w w') (hB : B ≤ B') : SeedV w' B v l := by
  obtain ⟨D, L, A, c, h1, h2, h3, h4⟩ := h
  exact ⟨D, L, A, c, h1, h2, h3.keep (fun p hp => hb.cell (by omega)), h4⟩
theorem SeedV.more {w : World} {B B' : Nat} {v : Value} {l : Lab} (h : SeedV w B v l) (hB : B ≤ B') : SeedV w B' v l := by
  obtain ⟨D, L, A, c, h1, h2, h3, h4⟩ := h
  exact ⟨D, L, A, c, h1, h2, h3.more hB, h4⟩

def RSeed (w : World) (Al : Option Addr) (d : Int) (L : List Int) (v : Value) (wr : World) : Prop :=
  ∃ (k : Nat) (A : Option Addr) (c : Nat), k ≤ L.length ∧ v = .int .i64 k ∧ Blk wr (w.heap.size + 2) 39 #[.int .i64 d, .slice A (seedP d 0 (L.take k)).length c] ∧ wr.ownsRow w.heap.size 90 2 (.slice A (seedP d 0 (L.take k)).length c) (seedP d 0 (L.take k)).length (pcells (seedP d 0 (L.take k))) ∧
    Blk wr (w.heap.size + 1) 39 #[.int .i64 0, .slice none 0 0] ∧ IntsAt .i64 wr w.heap.size Al L ∧ Below w.heap.size w wr

set_option maxRecDepth 100000 in
set_option maxHeartbeats 1600000 in
theorem seed_any (v : Value) (l : Lab) (w : World) (h : SeedV w w.heap.size v l) :
    Calls Try.prog 36 #[v] w fun e w' => ∃ x, e = .returned x ∧ LabV w' w'.heap.size x l ∧ Below w.heap.size w w' := by
  obtain ⟨i0, hi0, hz0, hz1, hz2⟩ := info_parts Try.info90
  obtain ⟨D, L, Al, cl, rfl, rfl, hl, hlen⟩ := h
  have q3 := i64_and3 D
  have hd0 : 0 ≤ D % 4 := by omega
  have hd1 : D % 4 < 4 := by omega
  have b0 := (((Below.refl w.heap.size w).alloc (Nat.le_refl _) (.cells #[.int .i64 D, .slice Al L.length cl] 36)).alloc (by simp) (.cells #[.int .i64 0, .slice none 0 0] 39))
  have k2 := (Blk.new (w.alloc (.cells #[.int .i64 D, .slice Al L.length cl] 36)) 39 #[.int .i64 0, .slice none 0 0]).alloc (.cells #[.int .i64 (D % 4 + 1), .slice none 0 0] 39)
  have k3 := Blk.new ((w.alloc (.cells #[.int .i64 D, .slice Al L.length cl] 36)).alloc (.cells #[.int .i64 0, .slice none 0 0] 39)) 39 #[.int .i64 (D % 4 + 1), .slice none 0 0]
  have b1 := b0.alloc b0.size (.cells #[.int .i64 (D % 4 + 1), .slice none 0 0] 39)
  rw [World.size_alloc] at k2
  rw [World.size_alloc, World.size_alloc] at k3
  have r0 : RSeed w Al (D % 4 + 1) L (.int .i64 0) (((w.alloc (.cells #[.int .i64 D, .slice Al L.length cl] 36)).alloc (.cells #[.int .i64 0, .slice none 0 0] 39)).alloc (.cells #[.int .i64 (D % 4 + 1), .slice none 0 0] 39)) :=
    ⟨0, none, 0, Nat.zero_le _, rfl, k3, World.ownsRow_nil _ _ _ _, k2, hl.below b1, b1⟩
  obtain ⟨r, hr⟩ : ∃ r, r = seedL D L := ⟨_, rfl⟩
  rw [← hr]
  have HR : Hid (r = ⟨D % 4 + 1, seedP (D % 4 + 1) 0 L⟩) := hr
  clear hl b0 b1 k2 k3 hr
  go_enter Try.func36, Try.ntmps36
  go_wp2_with fail
  clear q3
  generalize ((w.alloc (.cells #[.int .i64 D, .slice Al L.length cl] 36)).alloc (.cells #[.int .i64 0, .slice none 0 0] 39)).alloc (.cells #[.int .i64 (D % 4 + 1), .slice none 0 0] 39) = w1 at *
  generalize D % 4 + 1 = d at *
  go_loopw [14] (fun v wr => RSeed w Al d L v wr) (fun v _ => L.length - (intOf v).toNat)
  case atStart => exact r0
  case round =>
    clear r0
    obtain ⟨k, A, c, hk, rfl, k3, ho, k2, hl, hb⟩ := hrel
    have hml : (seedP d 0 (L.take k)).length ≤ 12 := seedP_length d _ 0 (by omega)
    by_cases hlt : k < L.length
    · obtain ⟨bl, ol, rfl, hbl, hcl⟩ := hl (by omega)
      have c1 := hcl k hlt
      have hs := seedP_snoc d L[k] (L.take k) 0
      rw [← List.take_succ_eq_append_getElem hlt, List.length_take, Nat.min_eq_left (by omega), Nat.zero_add] at hs
      have hm := mod5 L[k]
      have hm0 : -5 < L[k].tmod 5 := Int.lt_tmod_of_pos _ (by omega)
      have hm1 : L[k].tmod 5 < 5 := Int.tmod_lt_of_pos _ (by omega)
      have e0 := k3.cell 0
      have e1 := k3.cell 1
      simp at e0 e1
      have HL := Lib.hid hl
      have K3 := Lib.hid k3
      have K2 := Lib.hid k2
      have HO := Lib.hid ho
      have HB := Lib.hid hb
      have hbs := hb.size
      clear hcl hl k3 k2 ho hb
      generalize L[k] = n at *
      generalize n % 5 = m at *
      by_cases hc : k < 12 ∧ m ≠ d
      · rw [if_pos hc] at hs
        obtain ⟨hk12, hmd⟩ := hc
        have HSN := Lib.hid hs
        have t1 : decide ((k : Int) < 12) = true := by simp; omega
        have t2 : (m != d) = true := bne_iff_ne.2 hmd
        have hw : IntKind.u32.wrap (3 * (k : Int) + 1) = 3 * (k : Int) + 1 := by rw [IntKind.wrap_u32]; omega
        have ho1 := HO.out.alloc (.cells #[.int .u32 (3 * (k : Int) + 1), .int .i64 m] 90)
        have hcn := Lib.hid (pair_new wr (3 * (k : Int) + 1) m)
        have h1c := Lib.hid (pair_one (3 * (k : Int) + 1) m)
        have q3 := K3.out.alloc (.cells #[.int .u32 (3 * (k : Int) + 1), .int .i64 m] 90)
        have Q3 := Lib.hid q3
        have ML := Lib.hid hml
        have HM := Lib.hid hm
        clear hs hmd q3 hml
        go_wp2_with (at_builtin; refine wpList_append_own_at _ rfl _ _ 37 rfl w.heap.size 90 i0 _ 2 16 Try.underlying37 hi0 hz0 hz1 hz2 rfl (by decide) (.slice A (seedP d 0 (L.take k)).length c) _ _ rfl ho1 ⟨wr.heap.size, 0, none⟩ 1 1 [.int .u32 (3 * (k : Int) + 1), .int .i64 m] rfl rfl hcn.out h1c.out (by unfold maxLen; have := ML.out; omega) (by have := ML.out; omega) (by simp; omega) ?_; intro v2 w2 o2 g2 _ _; obtain ⟨A2, c2, rfl⟩ := own_slice o2; have kk := Q3.out.grown g2 (own_ne ho1 Q3.out (by decide)); have z1 := kk.cell 1; have z2 := kk.frozen 1; simp at z1)
        have hln : (seedP d 0 (L.take (k + 1))).length = (seedP d 0 (L.take k)).length + 1 := by rw [HSN.out]; simp
        go_roundw
        case rel =>
          have G := only_trans (only_alloc (only_refl wr (Value.slice A (seedP d 0 (L.take k)).length c).ownBlock) (.cells #[.int .u32 (3 * (k : Int) + 1), .int .i64 m] 90)) g2
          have k22 := K2.out.grown G (own_ne HO.out K2.out (by decide))
          refine ⟨k + 1, A2, c2, by omega, by go_num, ?_, ?_, k22.far (by show w.heap.size + 1 ≠ w.heap.size + 2; omega) _, HL.out.keep (fun p hp => ?_), (HB.out.grown G hbs (fun x hx => (own_row_blk HO.out hx).1)).setCell (p := ⟨w.heap.size + 2, 1, none⟩) (by show _ ≤ w.heap.size + 2; omega) _⟩
          · rw [hln]; exact kk.set_ 1 _
          · rw [hln, HSN.out, pcells_snoc]; exact own_set o2 kk (by decide) _
          · refine (World.cell?_setCell_other _ _ _ _ (by intro e; subst e; have : w.heap.size + 2 < w.heap.size := hp; omega)).trans ?_
            exact World.cell?_of_block (G.block p.block (by omega) (fun e => by have := (own_row_blk HO.out e.symm).1; omega))
        case measure => simp [intOf]; omega
      · rw [if_neg hc, List.append_nil] at hs
        have HSN := Lib.hid hs
        have HM := Lib.hid hm
        clear hs
        by_cases hk12 : k < 12
        · have t1 : decide ((k : Int) < 12) = true := by simp; omega
          have hmd : m = d := by
            by_cases e : m = d
            · exact e
            · exact absurd ⟨hk12, e⟩ hc
          subst hmd
          have t2 : (m != m) = false := by simp
          clear hc hml
          go_wp2_with fail
          go_roundw
          case rel => exact ⟨k + 1, A, c, by omega, by go_num, by rw [HSN.out]; exact K3.out, by rw [HSN.out]; exact HO.out, K2.out, HL.out, HB.out⟩
          case measure => simp [intOf]; omega
        · have t1 : decide ((k : Int) < 12) = false := by simp; omega
          clear hc hml
          go_wp2_with fail
          go_roundw
          case rel => exact ⟨k + 1, A, c, by omega, by go_num, by rw [HSN.out]; exact K3.out, by rw [HSN.out]; exact HO.out, K2.out, HL.out, HB.out⟩
          case measure => simp [intOf]; omega
    · obtain rfl : k = L.length := by omega
      rw [List.take_length] at k3 ho
      have hr := HR.out
      have ed : r.d = d := by rw [hr]
      have ep : r.ps = seedP d 0 L := by rw [hr]
      rw [← ep] at k3 ho
      rw [← ed] at k3
      have hS := stored_of (w := w) (l := r) k2 (own_pairs ho) (own_cap ho) hb (by omega)
      have HS := Lib.hid hS
      have e0 := k3.cell 0
      have e1 := k3.cell 1
      have e2 := k2.cell 0
      have e3 := k2.cell 1
      have f2 := k2.frozen 0
      have f3 := k2.frozen 1
      simp at e0 e1 e2 e3
      clear hS k3 ho k2 hl hb ed ep hr HR hml
      go_wp2
      refine bodyPost_ret (results_cell_row rfl _ _ (w.heap.size + 1) 39 #[.int .i64 r.d, .slice A r.ps.length c] (0, 0) _ (by rfl) HS.out.blk Try.underlying39 rfl (by kernel_rfl)) rfl ?_
      exact ⟨_, rfl, HS.out.lab, HS.out.bl⟩
end Go.Proofs.Ytihddficgpjgpaa
