/- What label.both's function calls: each category that one of two labels names, rising, behind the defaults. -/
import Derived.Test.YtihddficgpjgpaaLw
namespace Go.Proofs.Ytihddficgpjgpaa
open Go.RowKit Go.ChangeShapes Go.WideShapes Go.Shelf

/-- How going over ends: with all, or where it was said that it is enough. -/
def BothEnd (L : List (Int × Int × Int)) (J Jx : List (Int × Int × Int) → World → Prop) (w' : World) : Prop := J L w' ∨ ∃ pre, pre <+: L ∧ Jx pre w'
/-- How a call of the yield ends. -/
def YieldEnd (J Jx : List (Int × Int × Int) → World → Prop) (pre : List (Int × Int × Int)) (e : Ending) (w' : World) : Prop :=
  (e = .returned (.bool true) ∧ J pre w') ∨ (e = .returned (.bool false) ∧ Jx pre w')
/-- What going over needs of memory. -/
def BothMem (ga gb B : Nat) (Aa Ab : Option Addr) (ca cb : Nat) (a b : Lab) (W : World) : Prop :=
  Blk W ga 39 #[.int .i64 a.d, .slice Aa a.ps.length ca] ∧ Blk W gb 39 #[.int .i64 b.d, .slice Ab b.ps.length cb] ∧ PairsAt W B Aa a.ps ∧ PairsAt W B Ab b.ps
def BothYields (kf : Nat) (caps : Array Value) (a b : Lab) (J Jx : List (Int × Int × Int) → World → Prop) : Prop :=
  ∀ (pre : List (Int × Int × Int)) (c x y : Int) (W : World), J pre W → pre ++ [(c, x, y)] <+: bothL a b → Calls Try.prog kf (#[.int .u32 c, .int .i64 x, .int .i64 y] ++ caps) W (YieldEnd J Jx (pre ++ [(c, x, y)]))
/-- Between two rounds. -/
def RBoth (a b : Lab) (J : List (Int × Int × Int) → World → Prop) (v4 v5 : Value) (wr : World) : Prop :=
  ∃ (i k : Nat) (pre : List (Int × Int × Int)), i ≤ a.ps.length ∧ k ≤ b.ps.length ∧ v4 = .int .i64 i ∧ v5 = .int .i64 k ∧ J pre wr ∧ pre ++ bothP a.d b.d (a.ps.drop i) (b.ps.drop k) = bothL a b

theorem both_l (da db : Int) {ps qs : List (Int × Int)} {i k : Nat} (hi : i < ps.length) (h : ∀ hk : k < qs.length, ps[i].1 < qs[k].1) : bothP da db (ps.drop i) (qs.drop k) = (ps[i].1, ps[i].2, db) :: bothP da db (ps.drop (i + 1)) (qs.drop k) := by
  rw [List.drop_eq_getElem_cons hi]
  by_cases hk : k < qs.length
  · rw [List.drop_eq_getElem_cons hk, bothP, if_pos (h hk)]
  · rw [List.drop_eq_nil_of_le (show qs.length ≤ k by omega), bothP]
theorem both_r (da db : Int) {ps qs : List (Int × Int)} {i k : Nat} (hk : k < qs.length) (h : ∀ hi : i < ps.length, qs[k].1 < ps[i].1) : bothP da db (ps.drop i) (qs.drop k) = (qs[k].1, da, qs[k].2) :: bothP da db (ps.drop i) (qs.drop (k + 1)) := by
  rw [List.drop_eq_getElem_cons hk]
  by_cases hi : i < ps.length
  · rw [List.drop_eq_getElem_cons hi, bothP, if_neg (by have := h hi; omega), if_pos (h hi)]
  · rw [List.drop_eq_nil_of_le (show ps.length ≤ i by omega), bothP]
theorem both_b (da db : Int) {ps qs : List (Int × Int)} {i k : Nat} (hi : i < ps.length) (hk : k < qs.length) (h : ps[i].1 = qs[k].1) : bothP da db (ps.drop i) (qs.drop k) = (ps[i].1, ps[i].2, qs[k].2) :: bothP da db (ps.drop (i + 1)) (qs.drop (k + 1)) := by
  rw [List.drop_eq_getElem_cons hi, List.drop_eq_getElem_cons hk, bothP, if_neg (by omega), if_neg (by omega)]
theorem step_pre {α : Type} {pre r L : List α} {x : α} (h : pre ++ x :: r = L) : pre ++ [x] <+: L ∧ (pre ++ [x]) ++ r = L := ⟨⟨r, by rw [← h]; simp⟩, by rw [← h]; simp⟩

set_option maxRecDepth 100000 in
set_option maxHeartbeats 1600000 in
theorem both_any (kf : Nat) (caps : Array Value) (eg : ∀ args w, (callFunc kf args).run Try.prog w = .ok (.enter kf args) w) (ga gb B : Nat) (Aa Ab : Option Addr) (ca cb : Nat) (a b : Lab)
    (J Jx : List (Int × Int × Int) → World → Prop) (hmem : ∀ pre W, J pre W → BothMem ga gb B Aa Ab ca cb a b W) (hJd : ∀ pre W n, J pre W → J pre (W.drewN n))
    (hy : BothYields kf caps a b J Jx) (hla : a.ps.length ≤ 100000) (hlb : b.ps.length ≤ 100000) (w : World) (h0 : J [] w) :
    Calls Try.prog 132 #[.func (.func kf) #[] caps, .pointer (some ⟨ga, 0, none⟩), .pointer (some ⟨gb, 0, none⟩)] w fun e w' => e = .returned (.tuple #[]) ∧ BothEnd (bothL a b) J Jx w' := by
  have HM := Lib.hid hmem
  have HJd := Lib.hid hJd
  clear hmem hJd
  have hm := HM.out _ _ h0
  obtain ⟨k1, k2, _, _⟩ := hm
  have e1 := k1.cell 0
  have e2 := k2.cell 0
  simp at e1 e2
  have hy0 := hy [] 0 a.d b.d w h0 ⟨_, rfl⟩
  have HY := Lib.hid hy
  clear hy k1 k2
  go_enter Try.func132, Try.ntmps132
  go_wp2_with (go_at_fn kf; refine hy0.mono ?_; rintro e w1 (⟨rfl, hj1⟩ | ⟨rfl, hx1⟩))
  rotate_left
  · refine bodyPost_ret (results_none rfl _ _ _) rfl ?_
    exact ⟨rfl, .inr ⟨_, ⟨_, rfl⟩, hx1⟩⟩
  have r1 : RBoth a b J (.int .i64 0) (.int .i64 0) w1 := ⟨0, 0, _, Nat.zero_le _, Nat.zero_le _, rfl, rfl, hj1, rfl⟩
  clear hj1 h0 e1 e2 hy0
  go_loopw [4, 5] (fun v4 v5 wr => RBoth a b J v4 v5 wr) (fun v4 v5 _ => (a.ps.length - (intOf v4).toNat) + (b.ps.length - (intOf v5).toNat))
  case atStart => exact r1
  case round =>
    clear r1
    obtain ⟨i, k, pre, hi, hk, rfl, rfl, hj, he⟩ := hrel
    have HE := Lib.hid he
    clear he
    obtain ⟨k1, k2, p1, p2⟩ := HM.out _ _ hj
    have e10 := k1.cell 0
    have e11 := k1.cell 1
    have e20 := k2.cell 0
    have e21 := k2.cell 1
    simp at e10 e11 e20 e21
    clear k1 k2
    by_cases hlt : i < a.ps.length
    · by_cases hlk : k < b.ps.length
      · obtain ⟨b1, o1, rfl, _, hc1⟩ := p1 (by omega)
        obtain ⟨c1, c2⟩ := hc1 i hlt
        obtain ⟨b2, o2, rfl, _, hc2⟩ := p2 (by omega)
        obtain ⟨c3, c4⟩ := hc2 k hlk
        rcases Int.lt_trichotomy a.ps[i].1 b.ps[k].1 with hcmp | hcmp | hcmp
        · have HS := Lib.hid (step_pre ((congrArg (pre ++ ·) (both_l a.d b.d hlt (fun _ => hcmp))).symm.trans HE.out))
          have HC := Lib.hid (fun n => HY.out pre a.ps[i].1 a.ps[i].2 b.d _ (HJd.out pre wr n hj) HS.out.1)
          generalize a.ps[i] = pa at *
          obtain ⟨cat, lev⟩ := pa
          generalize b.ps[k] = pb at *
          obtain ⟨cat2, lev2⟩ := pb
          clear hc1 hc2
          simp only at c1 c2 c3 c4 HC HS hcmp
          have g1 : ((k : Int) == (b.ps.length : Int)) = false := by simp; omega
          have g2 : ((i : Int) == (a.ps.length : Int)) = false := by simp; omega
          have g3 : decide ((i : Int) < (a.ps.length : Int)) = true := by simp; omega
          have g4 : decide (cat < cat2) = true := by simpa using hcmp
          go_wp2_with fail
          go_quiet (fail)
          go_wp2_with fail
          go_quiet (fail)
          go_wp2_with fail
          go_quiet (fail)
          go_wp2_with fail
          refine (HC.out _).mono ?_
          rintro e w2 (⟨rfl, hj2⟩ | ⟨rfl, hx2⟩)
          · go_wp2_with fail
            go_roundw
            case rel => exact ⟨i + 1, k, _, by omega, by omega, by go_num, by go_num, hj2, HS.out.2⟩
            case measure => simp [intOf]; omega
          · go_wp2_with fail
            refine bodyPost_ret (results_none rfl _ _ _) rfl ?_
            exact ⟨rfl, .inr ⟨_, HS.out.1, hx2⟩⟩
          
        · have HS := Lib.hid (step_pre ((congrArg (pre ++ ·) (both_b a.d b.d hlt hlk hcmp)).symm.trans HE.out))
          have HC := Lib.hid (fun n => HY.out pre a.ps[i].1 a.ps[i].2 b.ps[k].2 _ (HJd.out pre wr n hj) HS.out.1)
          generalize a.ps[i] = pa at *
          obtain ⟨cat, lev⟩ := pa
          generalize b.ps[k] = pb at *
          obtain ⟨cat2, lev2⟩ := pb
          clear hc1 hc2
          simp only at c1 c2 c3 c4 HC HS hcmp
          subst hcmp
          have g1 : ((k : Int) == (b.ps.length : Int)) = false := by simp; omega
          have g2 : ((i : Int) == (a.ps.length : Int)) = false := by simp; omega
          have g3 : decide ((i : Int) < (a.ps.length : Int)) = true := by simp; omega
          have g4 : decide (cat < cat) = false := by simp
          go_wp2_with fail
          go_quiet (fail)
          go_wp2_with fail
          go_quiet (fail)
          go_wp2_with fail
          go_quiet (fail)
          go_wp2_with fail
          go_quiet (fail)
          go_wp2_with fail
          refine (HC.out _).mono ?_
          rintro e w2 (⟨rfl, hj2⟩ | ⟨rfl, hx2⟩)
          · go_wp2_with fail
            go_roundw
            case rel => exact ⟨i + 1, k + 1, _, by omega, by omega, by go_num, by go_num, hj2, HS.out.2⟩
            case measure => simp [intOf]; omega
          · go_wp2_with fail
            refine bodyPost_ret (results_none rfl _ _ _) rfl ?_
            exact ⟨rfl, .inr ⟨_, HS.out.1, hx2⟩⟩
          
        · have HS := Lib.hid (step_pre ((congrArg (pre ++ ·) (both_r a.d b.d hlk (fun _ => hcmp))).symm.trans HE.out))
          have HC := Lib.hid (fun n => HY.out pre b.ps[k].1 a.d b.ps[k].2 _ (HJd.out pre wr n hj) HS.out.1)
          generalize a.ps[i] = pa at *
          obtain ⟨cat, lev⟩ := pa
          generalize b.ps[k] = pb at *
          obtain ⟨cat2, lev2⟩ := pb
          clear hc1 hc2
          simp only at c1 c2 c3 c4 HC HS hcmp
          have g1 : ((k : Int) == (b.ps.length : Int)) = false := by simp; omega
          have g2 : ((i : Int) == (a.ps.length : Int)) = false := by simp; omega
          have g3 : decide ((i : Int) < (a.ps.length : Int)) = true := by simp; omega
          have g4 : decide (cat < cat2) = false := by simp; omega
          have g5 : decide (cat2 < cat) = true := by simpa using hcmp
          go_wp2_with fail
          go_quiet (fail)
          go_wp2_with fail
          go_quiet (fail)
          go_wp2_with fail
          go_quiet (fail)
          go_wp2_with fail
          go_quiet (fail)
          go_wp2_with fail
          refine (HC.out _).mono ?_
          rintro e w2 (⟨rfl, hj2⟩ | ⟨rfl, hx2⟩)
          · go_wp2_with fail
            go_roundw
            case rel => exact ⟨i, k + 1, _, by omega, by omega, by go_num, by go_num, hj2, HS.out.2⟩
            case measure => simp [intOf]; omega
          · go_wp2_with fail
            refine bodyPost_ret (results_none rfl _ _ _) rfl ?_
            exact ⟨rfl, .inr ⟨_, HS.out.1, hx2⟩⟩
          
      · obtain ⟨b1, o1, rfl, _, hc1⟩ := p1 (by omega)
        obtain ⟨c1, c2⟩ := hc1 i hlt
        have HS := Lib.hid (step_pre ((congrArg (pre ++ ·) (both_l a.d b.d hlt (fun h => absurd h hlk))).symm.trans HE.out))
        have HC := Lib.hid (fun n => HY.out pre a.ps[i].1 a.ps[i].2 b.d _ (HJd.out pre wr n hj) HS.out.1)
        obtain rfl : k = b.ps.length := by omega
        generalize a.ps[i] = pa at *
        obtain ⟨cat, lev⟩ := pa
        clear hc1 p2
        simp only at c1 c2 HC HS
        have g1 : ((b.ps.length : Int) == (b.ps.length : Int)) = true := by simp
        have g2 : ((i : Int) == (a.ps.length : Int)) = false := by simp; omega
        have g3 : decide ((i : Int) < (a.ps.length : Int)) = true := by simp; omega
        go_wp2_with fail
        go_quiet (fail)
        go_wp2_with fail
        go_quiet (fail)
        go_wp2_with fail
        go_quiet (fail)
        go_wp2_with fail
        refine (HC.out _).mono ?_
        rintro e w2 (⟨rfl, hj2⟩ | ⟨rfl, hx2⟩)
        · go_wp2_with fail
          go_roundw
          case rel => exact ⟨i + 1, b.ps.length, _, by omega, by omega, by go_num, by go_num, hj2, HS.out.2⟩
          case measure => simp [intOf]; omega
        · go_wp2_with fail
          refine bodyPost_ret (results_none rfl _ _ _) rfl ?_
          exact ⟨rfl, .inr ⟨_, HS.out.1, hx2⟩⟩
        
    · by_cases hlk : k < b.ps.length
      · obtain ⟨b2, o2, rfl, _, hc2⟩ := p2 (by omega)
        obtain ⟨c3, c4⟩ := hc2 k hlk
        have HS := Lib.hid (step_pre ((congrArg (pre ++ ·) (both_r a.d b.d hlk (fun h => absurd h hlt))).symm.trans HE.out))
        have HC := Lib.hid (fun n => HY.out pre b.ps[k].1 a.d b.ps[k].2 _ (HJd.out pre wr n hj) HS.out.1)
        obtain rfl : i = a.ps.length := by omega
        generalize b.ps[k] = pb at *
        obtain ⟨cat2, lev2⟩ := pb
        clear hc2 p1
        simp only at c3 c4 HC HS
        have g1 : ((k : Int) == (b.ps.length : Int)) = false := by simp; omega
        have g2 : ((a.ps.length : Int) == (a.ps.length : Int)) = true := by simp
        have g3 : decide ((a.ps.length : Int) < (a.ps.length : Int)) = false := by simp
        go_wp2_with fail
        go_quiet (fail)
        go_wp2_with fail
        go_quiet (fail)
        go_wp2_with fail
        go_quiet (fail)
        go_wp2_with fail
        go_quiet (fail)
        go_wp2_with fail
        refine (HC.out _).mono ?_
        rintro e w2 (⟨rfl, hj2⟩ | ⟨rfl, hx2⟩)
        · go_wp2_with fail
          go_roundw
          case rel => exact ⟨a.ps.length, k + 1, _, by omega, by omega, by go_num, by go_num, hj2, HS.out.2⟩
          case measure => simp [intOf]; omega
        · go_wp2_with fail
          refine bodyPost_ret (results_none rfl _ _ _) rfl ?_
          exact ⟨rfl, .inr ⟨_, HS.out.1, hx2⟩⟩
        
      · obtain rfl : i = a.ps.length := by omega
        obtain rfl : k = b.ps.length := by omega
        have HF : Hid (pre = bothL a b) := by
          show _ = _
          have := HE.out
          rw [List.drop_length, List.drop_length, bothP, List.append_nil] at this
          exact this
        clear HE p1 p2
        go_wp2_with fail
        go_end0
        exact ⟨rfl, .inl (by rw [← HF.out]; exact hj)⟩
end Go.Proofs.Ytihddficgpjgpaa
