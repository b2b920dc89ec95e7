/- What a label owns: label.Owns and the document's. -/
import Derived.Test.YtihddficgpjgpaaTurn
namespace Go.Proofs.Ytihddficgpjgpaa
open Go.RowKit Go.ChangeShapes Go.WideShapes Go.Shelf

theorem Try.info70 : (Try.prog.info? 70).map (fun i => (i.zero, i.size, i.bytes)) = some (some (.int .u32 0), 1, 4) := by kernel_rfl
def u32s (l : List Int) : List Value := l.map (Value.int .u32)
def ownsP (ps : List (Int × Int)) : List Int := (ps.filter fun p => decide (p.2 = 0)).map (·.1)
theorem ownsP_snoc (ps : List (Int × Int)) (p : Int × Int) : ownsP (ps ++ [p]) = if p.2 = 0 then ownsP ps ++ [p.1] else ownsP ps := by
  unfold ownsP
  rw [List.filter_append]
  split <;> rename_i h <;> simp [h]
theorem ownsP_length (ps : List (Int × Int)) : (ownsP ps).length ≤ ps.length := by
  unfold ownsP
  rw [List.length_map]
  exact List.length_filter_le _ _

def ROwn (w : World) (B : Nat) (A : Option Addr) (ps : List (Int × Int)) (vo vi : Value) (wr : World) : Prop :=
  ∃ k : Nat, k ≤ ps.length ∧ vi = .int .i64 k ∧ wr.ownsRow w.heap.size 70 1 vo (ownsP (ps.take k)).length (u32s (ownsP (ps.take k))) ∧ PairsAt wr B A ps ∧ Below w.heap.size w wr

set_option maxRecDepth 100000 in
set_option maxHeartbeats 800000 in
theorem owns_any (va : Value) (a : Lab) (w : World) (ha : LabV w w.heap.size va a) (hl : a.ps.length ≤ 1000000) :
    Calls Try.prog 56 #[va] w fun e w' => ∃ v, e = .returned v ∧ w'.ownsRow w.heap.size 70 1 v (ownsL a).length (u32s (ownsL a)) ∧ Below w.heap.size w w' := by
  obtain ⟨i0, hi0, hz0, hz1, hz2⟩ := info_parts Try.info70
  obtain ⟨Aa, ca, rfl, pa, la⟩ := ha
  have b0 := (Below.refl w.heap.size w).alloc (Nat.le_refl _) (.cells #[.int .i64 a.d, .slice Aa a.ps.length ca] 39)
  have r0 : ROwn w w.heap.size Aa a.ps (.slice none 0 0) (.int .i64 0) (w.alloc (.cells #[.int .i64 a.d, .slice Aa a.ps.length ca] 39)) := ⟨0, Nat.zero_le _, rfl, World.ownsRow_nil _ _ _ _, pa.below b0, b0⟩
  clear pa b0
  go_enter Try.func56, Try.ntmps56
  go_wp2_with fail
  generalize w.alloc (.cells #[.int .i64 a.d, .slice Aa a.ps.length ca] 39) = w1 at *
  go_loopw [3, 9] (fun vo vi wr => ROwn w w.heap.size Aa a.ps vo vi wr) (fun _ vi _ => a.ps.length - (intOf vi).toNat)
  case atStart => exact r0
  case round =>
    clear r0
    obtain ⟨k, hk, rfl, ho, pk, bk⟩ := hrel
    have hol : (ownsP (a.ps.take k)).length ≤ 1000000 := Nat.le_trans (ownsP_length _) (by simp; omega)
    by_cases hlt : k < a.ps.length
    · have hsz := bk.size
      obtain ⟨b, off, rfl, hb, hc⟩ := pk (by omega)
      obtain ⟨c0, c1⟩ := hc k hlt
      have hs := ownsP_snoc (a.ps.take k) a.ps[k]
      rw [← List.take_succ_eq_append_getElem hlt] at hs
      generalize a.ps[k] = pr at *
      obtain ⟨cat, lev⟩ := pr
      simp only at c0 c1 hs
      have pk1 := pk.alloc (by omega) (.cells #[.int .u32 cat, .int .i64 lev] 90)
      have bk1 := bk.alloc bk.size (.cells #[.int .u32 cat, .int .i64 lev] 90)
      have ho1 := ho.alloc (.cells #[.int .u32 cat, .int .i64 lev] 90)
      have PK := Lib.hid pk1
      have BK := Lib.hid bk1
      have HO := Lib.hid ho1
      have HL := Lib.hid hol
      clear hc pk pk1 bk bk1 ho hol
      by_cases hz : lev = 0
      · rw [if_pos hz] at hs
        have HS := Lib.hid hs
        subst hz
        clear hs
        have ho2 := ho1.alloc (.cells #[.int .u32 cat] 70)
        have hcn := Lib.hid (cell_one_new (wr.alloc (.cells #[.int .u32 cat, .int .i64 0] 90)) (.int .u32 cat) 70)
        rw [World.size_alloc] at hcn
        go_wp2_with (at_builtin; refine wpList_append_own_at _ rfl _ _ 75 rfl w.heap.size 70 i0 _ 1 4 Try.underlying75 hi0 hz0 hz1 hz2 rfl (by decide) u3 _ _ rfl ho2 ⟨wr.heap.size + 1, 0, none⟩ 1 1 [.int .u32 cat] rfl rfl hcn.out (by intro u hu; simp at hu; subst hu; rfl) (by unfold maxLen; have := HL.out; omega) (by have := HL.out; omega) (by simp; omega) ?_; intro v2 w2 o2 g2 _ _)
        go_roundw
        case rel =>
          refine ⟨k + 1, by omega, by go_num, ?_, (PK.out.alloc (by simp; omega) _).keep (fun p hp => World.cell?_of_block (g2.block p.block (by simp; omega) ?_)), (BK.out.alloc BK.out.size _).grown g2 (by simp; omega) (fun b hb => own_base ho2 hb)⟩
          · rw [HS.out]
            have e : (ownsP (a.ps.take k) ++ [cat]).length = (ownsP (a.ps.take k)).length + 1 := by simp
            rw [e]; simpa [u32s] using o2
          · intro e
            have := own_base ho2 e.symm
            omega
        case measure => simp [intOf]; omega
      · rw [if_neg hz] at hs
        have HS := Lib.hid hs
        have hzb : (lev == 0) = false := by simpa using hz
        clear hs hz ho1
        go_wp2_with fail
        go_roundw
        case rel => exact ⟨k + 1, by omega, by go_num, by rw [HS.out]; exact HO.out, PK.out, BK.out⟩
        case measure => simp [intOf]; omega
    · obtain rfl : k = a.ps.length := by omega
      have hE : Hid (ownsP (a.ps.take a.ps.length) = ownsL a) := by show _ = _; rw [List.take_length]; rfl
      have HO := Lib.hid ho
      have BK := Lib.hid bk
      clear hk hlt ho pk bk hol
      go_wp2_with fail
      go_ret
      exact ⟨_, rfl, by rw [← hE.out]; exact HO.out, BK.out⟩
def ROwn2 (w : World) (B : Nat) (A : Option Addr) (ca : Nat) (a : Lab) (vo vi : Value) (wr : World) : Prop :=
  ∃ k : Nat, k ≤ a.ps.length ∧ vi = .int .i64 k ∧ wr.ownsRow w.heap.size 70 1 vo (ownsP (a.ps.take k)).length (u32s (ownsP (a.ps.take k))) ∧ Blk wr w.heap.size 39 #[.int .i64 a.d, .slice A a.ps.length ca] ∧ PairsAt wr B A a.ps ∧ Below w.heap.size w wr

set_option maxRecDepth 100000 in
set_option maxHeartbeats 800000 in
theorem rowns_any (va : Value) (a : Lab) (w : World) (ha : LabV w w.heap.size va a) (hl : a.ps.length ≤ 1000000) :
    Calls Try.prog 80 #[va] w fun e w' => ∃ v, e = .returned v ∧ w'.ownsRow w.heap.size 70 1 v (ownsL a).length (u32s (ownsL a)) ∧ Below w.heap.size w w' := by
  obtain ⟨i0, hi0, hz0, hz1, hz2⟩ := info_parts Try.info70
  obtain ⟨Aa, ca, rfl, pa, la⟩ := ha
  have b0 := (Below.refl w.heap.size w).alloc (Nat.le_refl _) (.cells #[.int .i64 a.d, .slice Aa a.ps.length ca] 39)
  have r0 : ROwn2 w w.heap.size Aa ca a (.slice none 0 0) (.int .i64 0) (w.alloc (.cells #[.int .i64 a.d, .slice Aa a.ps.length ca] 39)) := ⟨0, Nat.zero_le _, rfl, World.ownsRow_nil _ _ _ _, Blk.new w 39 _, pa.below b0, b0⟩
  clear pa b0
  go_enter Try.func80, Try.ntmps80
  go_wp2_with fail
  generalize w.alloc (.cells #[.int .i64 a.d, .slice Aa a.ps.length ca] 39) = w1 at *
  go_loopw [3, 4] (fun vo vi wr => ROwn2 w w.heap.size Aa ca a vo vi wr) (fun _ vi _ => a.ps.length - (intOf vi).toNat)
  case atStart => exact r0
  case round =>
    clear r0
    obtain ⟨k, hk, rfl, ho, kb, pk, bk⟩ := hrel
    have eb := kb.cell 1
    simp at eb
    have KB := Lib.hid kb
    clear kb
    have hol : (ownsP (a.ps.take k)).length ≤ 1000000 := Nat.le_trans (ownsP_length _) (by simp; omega)
    by_cases hlt : k < a.ps.length
    · have hsz := bk.size
      obtain ⟨b, off, rfl, hb, hc⟩ := pk (by omega)
      obtain ⟨c0, c1⟩ := hc k hlt
      have hs := ownsP_snoc (a.ps.take k) a.ps[k]
      rw [← List.take_succ_eq_append_getElem hlt] at hs
      generalize a.ps[k] = pr at *
      obtain ⟨cat, lev⟩ := pr
      simp only at c0 c1 hs
      have PK := Lib.hid pk
      have BK := Lib.hid bk
      have HO := Lib.hid ho
      have HL := Lib.hid hol
      have i0' : (0 : Int) ≤ (k : Int) := by omega
      have i1' : (k : Int) < (a.ps.length : Int) := by omega
      clear hc pk bk hol
      by_cases hz : lev = 0
      · rw [if_pos hz] at hs
        have HS := Lib.hid hs
        subst hz
        clear hs
        have ho2 := ho.alloc (.cells #[.int .u32 cat] 70)
        have hcn := Lib.hid (cell_one_new wr (.int .u32 cat) 70)
        clear ho
        go_wp2_with (at_builtin; refine wpList_append_own_at _ rfl _ _ 75 rfl w.heap.size 70 i0 _ 1 4 Try.underlying75 hi0 hz0 hz1 hz2 rfl (by decide) u3 _ _ rfl ho2 ⟨wr.heap.size, 0, none⟩ 1 1 [.int .u32 cat] rfl rfl hcn.out (by intro u hu; simp at hu; subst hu; rfl) (by unfold maxLen; have := HL.out; omega) (by have := HL.out; omega) (by simp; omega) ?_; intro v2 w2 o2 g2 _ _)
        go_roundw
        case rel =>
          refine ⟨k + 1, by omega, by go_num, ?_, (KB.out.alloc _).grown g2 (own_ne ho2 (KB.out.alloc _) (by decide)), (PK.out.alloc (by omega) _).keep (fun p hp => World.cell?_of_block (g2.block p.block (by simp; omega) ?_)), (BK.out.alloc BK.out.size _).grown g2 (by simp; omega) (fun b hb => own_base ho2 hb)⟩
          · rw [HS.out]
            have e : (ownsP (a.ps.take k) ++ [cat]).length = (ownsP (a.ps.take k)).length + 1 := by simp
            rw [e]; simpa [u32s] using o2
          · intro e
            have := own_base ho2 e.symm
            omega
        case measure => simp [intOf]; omega
      · rw [if_neg hz] at hs
        have HS := Lib.hid hs
        have hzb : (lev == 0) = false := by simpa using hz
        clear hs hz ho
        go_wp2_with fail
        go_roundw
        case rel => exact ⟨k + 1, by omega, by go_num, by rw [HS.out]; exact HO.out, KB.out, PK.out, BK.out⟩
        case measure => simp [intOf]; omega
    · obtain rfl : k = a.ps.length := by omega
      have hE : Hid (ownsP (a.ps.take a.ps.length) = ownsL a) := by show _ = _; rw [List.take_length]; rfl
      have HO := Lib.hid ho
      have BK := Lib.hid bk
      clear hk hlt ho pk bk hol
      go_wp2_with fail
      go_ret
      exact ⟨_, rfl, by rw [← hE.out]; exact HO.out, BK.out⟩
end Go.Proofs.Ytihddficgpjgpaa
