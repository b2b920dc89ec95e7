/- The document's Make: a label of a default, and levels of categories. -/
import Derived.Test.YtihddficgpjgpaaCats
import Derived.Test.YtihddficgpjgpaaRefa
namespace Go.Proofs.Ytihddficgpjgpaa
open Go.RowKit Go.ChangeShapes Go.WideShapes Go.Shelf

def makeP (d : Int) (cs : List Int) (g : Int → Int) : List (Int × Int) := (cs.map fun c => (c, g c)).filter fun p => decide (p.2 ≠ d)
theorem makeP_snoc (d : Int) (cs : List Int) (g : Int → Int) (c : Int) : makeP d (cs ++ [c]) g = if g c = d then makeP d cs g else makeP d cs g ++ [(c, g c)] := by
  unfold makeP
  rw [List.map_append, List.filter_append]
  split <;> rename_i h <;> simp [h]
theorem makeP_length (d : Int) (cs : List Int) (g : Int → Int) : (makeP d cs g).length ≤ cs.length := by
  unfold makeP
  exact Nat.le_trans (List.length_filter_le _ _) (by simp)

def RMake (w : World) (Ac Al : Option Addr) (d : Int) (cs : List Int) (g : Int → Int) (v : Value) (wr : World) : Prop :=
  ∃ (k : Nat) (A : Option Addr) (c : Nat), k ≤ cs.length ∧ v = .int .i64 k ∧ Blk wr (w.heap.size + 1) 39 #[.int .i64 d, .slice A (makeP d (cs.take k) g).length c] ∧ wr.ownsRow w.heap.size 90 2 (.slice A (makeP d (cs.take k) g).length c) (makeP d (cs.take k) g).length (pcells (makeP d (cs.take k) g)) ∧
    Blk wr w.heap.size 39 #[.int .i64 0, .slice none 0 0] ∧ IntsAt .u32 wr w.heap.size Ac cs ∧ IntsAt .i64 wr w.heap.size Al (cs.map g) ∧ Below w.heap.size w wr

theorem cell_grown {a w : World} {row : Option Nat} (h : a.grownBy w row) {b o : Nat} (hb : b < a.heap.size) (hne : some b ≠ row) : w.cell? ⟨b, o, none⟩ = a.cell? ⟨b, o, none⟩ := World.cell?_of_block (h.block b hb hne)
theorem reads_new2 (W : World) (u v : Value) (t : TypeId) : Reads (W.alloc (.cells #[u, v] t)) (W.heap.size + 1) 2 (some ⟨W.heap.size, 0, none⟩) 1 [u, v] :=
  ⟨rfl, fun _ => ⟨_, rfl, Nat.lt_succ_self _, fun j x hx => by
    rw [add_none, Nat.zero_add]
    refine ((Blk.new W t #[u, v]).cell j).trans ?_
    rw [← hx]; simp⟩⟩
set_option maxRecDepth 100000 in
set_option maxHeartbeats 1600000 in
theorem make_any (Ac Al : Option Addr) (cc cl : Nat) (d : Int) (cs : List Int) (g : Int → Int) (w : World) (hc : IntsAt .u32 w w.heap.size Ac cs) (hl : IntsAt .i64 w w.heap.size Al (cs.map g)) (hlen : cs.length ≤ 100000) :
    Calls Try.prog 114 #[.int .i64 d, .slice Ac cs.length cc, .slice Al cs.length cl] w fun e w' => ∃ v, e = .returned v ∧ LabV w' w'.heap.size v (makeL d cs g) ∧ Below w.heap.size w w' := by
  obtain ⟨i0, hi0, hz0, hz1, hz2⟩ := info_parts Try.info90
  have b0 := ((Below.refl w.heap.size w).alloc (Nat.le_refl _) (.cells #[.int .i64 0, .slice none 0 0] 39)).alloc (by simp) (.cells #[.int .i64 d, .slice none 0 0] 39)
  have k6 := (Blk.new w 39 #[.int .i64 0, .slice none 0 0]).alloc (.cells #[.int .i64 d, .slice none 0 0] 39)
  have k7 := Blk.new (w.alloc (.cells #[.int .i64 0, .slice none 0 0] 39)) 39 #[.int .i64 d, .slice none 0 0]
  rw [World.size_alloc] at k7
  have r0 : RMake w Ac Al d cs g (.int .i64 0) ((w.alloc (.cells #[.int .i64 0, .slice none 0 0] 39)).alloc (.cells #[.int .i64 d, .slice none 0 0] 39)) :=
    ⟨0, none, 0, Nat.zero_le _, rfl, k7, World.ownsRow_nil _ _ _ _, k6, hc.below b0, hl.below b0, b0⟩
  clear hc hl b0 k6 k7
  go_enter Try.func114, Try.ntmps114
  go_wp2_with fail
  generalize (w.alloc (.cells #[.int .i64 0, .slice none 0 0] 39)).alloc (.cells #[.int .i64 d, .slice none 0 0] 39) = w1 at *
  go_loopw [8] (fun v wr => RMake w Ac Al d cs g v wr) (fun v _ => cs.length - (intOf v).toNat)
  case atStart => exact r0
  case round =>
    clear r0
    obtain ⟨k, A, c, hk, rfl, k7, ho, k6, hc, hl, hb⟩ := hrel
    have hml : (makeP d (cs.take k) g).length ≤ 100000 := Nat.le_trans (makeP_length _ _ _) (by simp; omega)
    by_cases hlt : k < cs.length
    · obtain ⟨bc, oc, rfl, hbc, hcc⟩ := hc (by omega)
      obtain ⟨bl, ol, rfl, hbl, hcl⟩ := hl (by simpa using (by omega : 0 < cs.length))
      have c0 := hcc k hlt
      have c1 := hcl k (by simpa using hlt)
      have hm := makeP_snoc d (cs.take k) g cs[k]
      rw [← List.take_succ_eq_append_getElem hlt] at hm
      simp only [List.getElem_map] at c1
      have HC := Lib.hid hc
      have HL := Lib.hid hl
      have K7 := Lib.hid k7
      have K6 := Lib.hid k6
      have HO := Lib.hid ho
      have HB := Lib.hid hb
      have ML := Lib.hid hml
      have q1 := k7.cell 1
      simp at q1
      have hbs := hb.size
      have i0' : (0 : Int) ≤ (k : Int) ∧ (k : Int) < (cs.length : Int) := by omega
      clear hc hl k7 k6 ho hb hcc hcl hml
      generalize cs[k] = x at *
      by_cases hd : g x = d
      · rw [if_pos hd] at hm
        have HM := Lib.hid hm
        have hdb : (g x != d) = false := by simpa using hd
        clear hm hd
        go_wp2_with fail
        go_roundw
        case rel => exact ⟨k + 1, A, c, by omega, by go_num, by rw [HM.out]; exact K7.out, by rw [HM.out]; exact HO.out, K6.out, HC.out, HL.out, HB.out⟩
        case measure => simp [intOf]; omega
      · rw [if_neg hd] at hm
        have HM := Lib.hid hm
        have hdb : (g x != d) = true := bne_iff_ne.2 hd
        clear hm hd
        go_wp2_with fail
        have q2 := (K7.out.alloc (.cells #[.int .u32 x, .int .i64 (g x)] 90))
        have ho1 := HO.out.alloc (.cells #[.int .u32 x, .int .i64 (g x)] 90)
        have HO1 := Lib.hid ho1
        have Q2 := Lib.hid q2
        have HOB : Hid (∀ b, (Value.slice A (makeP d (cs.take k) g).length c).ownBlock = some b → w.heap.size ≤ b) := fun b hb => (own_row_blk HO.out hb).1
        have z1 := q2.cell 1
        simp at z1
        have z2 := (World.cell?_alloc_lt wr (.cells #[.int .u32 x, .int .i64 (g x)] 90) ⟨bc, oc + k, none⟩ (by show bc < _; omega)).trans c0
        have z3 := (World.cell?_alloc_lt wr (.cells #[.int .u32 x, .int .i64 (g x)] 90) ⟨bl, ol + k, none⟩ (by show bl < _; omega)).trans c1
        clear q2 ho1
        go_region_law (refine step_append_any _ rfl (.tmp 24) (.tmp 34) 37 rfl w.heap.size 90 i0 _ 2 16 Try.underlying37 hi0 hz0 hz1 hz2 rfl (by decide) (.slice A (makeP d (cs.take k) g).length c) _ _ (by rfl) HO1.out _ _ 1 1 [.int .u32 x, .int .i64 (g x)] (by rfl) ((reads_new2 wr _ _ 90).keep (fun _ _ => rfl)) (pair_one x (g x)) (by unfold maxLen; have := ML.out; omega) (by have := ML.out; omega) (by simp; omega) ?_; intro v2 w2 o2 g2 a2; obtain ⟨A2, c2, rfl⟩ := own_slice o2; have kk := Q2.out.drew.grown g2 (own_ne HO1.out Q2.out (by decide)); have p0 := (cell_grown g2 (b := bc) (o := oc + k) (by show bc < (wr.alloc _).heap.size; simp; omega) (fun e => by have := HOB.out bc e.symm; omega)).trans ((World.cell?_alloc_lt wr _ _ (by show bc < _; omega)).trans c0); have p1 := (cell_grown g2 (b := bl) (o := ol + k) (by show bl < (wr.alloc _).heap.size; simp; omega) (fun e => by have := HOB.out bl e.symm; omega)).trans ((World.cell?_alloc_lt wr _ _ (by show bl < _; omega)).trans c1); have p2 := kk.cell 1; have f2 := kk.frozen 1; simp at p2)
        all_goals
          have HX := Lib.hid (kk.set_ 1 (.slice A2 ((makeP d (cs.take k) g).length + 1) c2))
          have HK6 := Lib.hid (((K6.out.alloc (.cells #[.int .u32 x, .int .i64 (g x)] 90)).drew.grown g2 (own_ne HO1.out (K6.out.alloc _) (by decide))).far (p := ⟨w.heap.size + 1, 1, none⟩) (by show w.heap.size ≠ w.heap.size + 1; omega) (.slice A2 ((makeP d (cs.take k) g).length + 1) c2))
          have HO2 := Lib.hid (own_set o2 kk (by decide) (i := 1) (.slice A2 ((makeP d (cs.take k) g).length + 1) c2))
          have HB2 := Lib.hid (((below_drewN (HB.out.alloc hbs (.cells #[.int .u32 x, .int .i64 (g x)] 90)) 1).grown g2 (by show _ ≤ (wr.alloc _).heap.size; simp; omega) (fun b hb => HOB.out b hb)).setCell (p := ⟨w.heap.size + 1, 1, none⟩) (by show w.heap.size ≤ w.heap.size + 1; omega) (.slice A2 ((makeP d (cs.take k) g).length + 1) c2))
          have hkeep : ∀ p : Addr, p.block < w.heap.size → ((w2.setCell ⟨w.heap.size + 1, 1, none⟩ (.slice A2 ((makeP d (cs.take k) g).length + 1) c2)).cell? p = wr.cell? p) := fun p hp => by
            refine (World.cell?_setCell_other _ _ _ _ (by intro e; subst e; have : w.heap.size + 1 < w.heap.size := hp; omega)).trans ?_
            refine (World.cell?_of_block (g2.block p.block (by show p.block < (wr.alloc _).heap.size; simp; omega) (fun e => by have := HOB.out p.block e.symm; omega))).trans ?_
            exact World.cell?_alloc_lt wr _ _ (by omega)
          have HK := Lib.hid hkeep
          have hml2 : (makeP d (cs.take (k + 1)) g).length = (makeP d (cs.take k) g).length + 1 := by rw [HM.out]; simp
          have HM2 := Lib.hid hml2
          clear kk p0 p1 p2 f2 o2 a2 hkeep hml2 q1 c0 c1 z1 z2 z3
          go_wp2_with fail
          go_roundw
          case rel =>
            refine ⟨k + 1, A2, c2, by omega, by go_num, ?_, ?_, HK6.out, HC.out.keep (fun p hp => HK.out p hp), HL.out.keep (fun p hp => HK.out p hp), HB2.out⟩
            · rw [HM2.out]; exact HX.out
            · rw [HM2.out, HM.out, pcells_snoc]; exact HO2.out
          case measure => simp [intOf]; omega
    · obtain rfl : k = cs.length := by omega
      rw [List.take_length] at k7 ho
      have hm : (makeL d cs g).ps = makeP d cs g := rfl
      have hS := stored_of (w := w) (l := makeL d cs g) k6 (own_pairs ho) (own_cap ho) hb (by omega)
      have HS := Lib.hid hS
      have e0 := k7.cell 0
      have e1 := k7.cell 1
      have e2 := k6.cell 0
      have e3 := k6.cell 1
      have f2 := k6.frozen 0
      have f3 := k6.frozen 1
      simp at e0 e1 e2 e3
      clear hS k7 ho k6 hc hl hb hm
      go_wp2
      refine bodyPost_ret (results_cell_row rfl _ _ w.heap.size 39 #[.int .i64 (makeL d cs g).d, .slice A (makeL d cs g).ps.length c] (0, 0) _ (by rfl) HS.out.blk Try.underlying39 rfl (by kernel_rfl)) rfl ?_
      exact ⟨_, rfl, HS.out.lab, HS.out.bl⟩
end Go.Proofs.Ytihddficgpjgpaa
