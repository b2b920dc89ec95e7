/- MTop: Lw, Both, Merge, Turn, Seed, one behind the other. -/
import Derived.Test.YtihddficgpjgpaaZBytes
import Derived.Test.YtihddficgpjgpaaZLmath
import Derived.Deep.Cut
import Derived.Deep.CutRange
import Derived.Shelf.GgClosure.Gives
import Derived.Deep.LoopGhost
namespace Go.Proofs.Ytihddficgpjgpaa
open Go.RowKit Go.ChangeShapes Go.WideShapes
/-- A row of pairs. -/
def PairsAt (w : World) (B : Nat) (A : Option Addr) (l : List (Int × Int)) : Prop :=
  0 < l.length → ∃ b off, A = some ⟨b, off, none⟩ ∧ b < B ∧ ∀ k (h : k < l.length), w.cell? ⟨b, off + k * 2, none⟩ = some (.int .u32 l[k].1) ∧ w.cell? ⟨b, off + k * 2 + 1, none⟩ = some (.int .i64 l[k].2)
section
variable {w w' : World} {B B' : Nat} {A : Option Addr} {l : List (Int × Int)}
theorem PairsAt.keep (h : PairsAt w B A l) (hk : ∀ p : Addr, p.block < B → w'.cell? p = w.cell? p) : PairsAt w' B A l := fun hl => by
  obtain ⟨b, off, e, hb, hc⟩ := h hl
  exact ⟨b, off, e, hb, fun k hk' => ⟨(hk ⟨b, off + k * 2, none⟩ hb).trans (hc k hk').1, (hk ⟨b, off + k * 2 + 1, none⟩ hb).trans (hc k hk').2⟩⟩
theorem PairsAt.below (h : PairsAt w B A l) (hb : Below B w w') : PairsAt w' B A l := h.keep fun _ hp => hb.cell hp
theorem PairsAt.more (h : PairsAt w B A l) (hB : B ≤ B') : PairsAt w B' A l := fun hl => by
  obtain ⟨b, off, e, hb, hc⟩ := h hl
  exact ⟨b, off, e, by omega, hc⟩
theorem PairsAt.nil (w : World) (B : Nat) (A : Option Addr) : PairsAt w B A [] := fun h => absurd h (by simp)
theorem PairsAt.alloc (h : PairsAt w B A l) (hB : B ≤ w.heap.size) (o : Obj) : PairsAt (w.alloc o) B A l := h.keep fun _ hp => World.cell?_alloc_lt _ _ _ (by omega)
end
/-- The value of a label: its pairs lie below block B. -/
def LabV (w : World) (B : Nat) (v : Value) (l : Lab) : Prop :=
  ∃ (A : Option Addr) (c : Nat), v = .agg #[.int .i64 l.d, .slice A l.ps.length c] ∧ PairsAt w B A l.ps ∧ l.ps.length ≤ c
section
variable {w w' : World} {B B' : Nat} {v : Value} {l : Lab}
theorem LabV.keep (h : LabV w B v l) (hk : ∀ p : Addr, p.block < B → w'.cell? p = w.cell? p) : LabV w' B v l := by
  obtain ⟨A, c, h1, h2, h3⟩ := h
  exact ⟨A, c, h1, h2.keep hk, h3⟩
end
/-- A variable that holds a label. -/
def LabB (w : World) (g B : Nat) (l : Lab) : Prop := ∃ (A : Option Addr) (c : Nat), Blk w g 39 #[.int .i64 l.d, .slice A l.ps.length c] ∧ PairsAt w B A l.ps ∧ l.ps.length ≤ c
theorem LabB.below {w w' : World} {g B B' : Nat} {l : Lab} (h : LabB w g B l) (hb : Below B' w w') (hB : B ≤ B') (hg : g < B') : LabB w' g B l := by
  obtain ⟨A, c, h1, h2, h3⟩ := h
  exact ⟨A, c, h1.below hb hg, h2.keep (fun p hp => hb.cell (by omega)), h3⟩
theorem Blk.ne_ {w : World} {g g' : Nat} {t t' : TypeId} {cs cs' : Array Value} (h : Blk w g t cs) (h' : Blk w g' t' cs') (hne : t ≠ t') : g ≠ g' := by
  rintro rfl
  unfold Blk at h h'
  rw [h] at h'
  injection h' with h'
  injection h' with _ ht
  exact hne ht
theorem own_row_blk {w : World} {B m x size : Nat} {e : TypeId} {v : Value} {xs : List Value} (h : w.ownsRow B e size v m xs) (hx : v.ownBlock = some x) : B ≤ x ∧ ∃ cs, Blk w x e cs := by
  rcases h.2 with ⟨rfl, _⟩ | ⟨g', cap, cur, rfl, hB, hh, _⟩
  · cases hx
  · cases hx; exact ⟨hB, _, hh⟩
theorem own_ne {w : World} {B g n : Nat} {e t : TypeId} {v : Value} {xs : List Value} {size : Nat} {cs : Array Value} (h : w.ownsRow B e size v n xs) (hg : Blk w g t cs) (hne : e ≠ t) : some g ≠ v.ownBlock := by
  intro he
  obtain ⟨_, cs', hb⟩ := own_row_blk h he.symm
  exact hb.ne_ hg hne rfl
theorem own_mono {w : World} {B B' : Nat} {e : TypeId} {size n : Nat} {v : Value} {xs : List Value} (h : w.ownsRow B' e size v n xs) (hB : B ≤ B') : w.ownsRow B e size v n xs := by
  refine ⟨h.1, ?_⟩
  rcases h.2 with h1 | ⟨g', cap, cur, h0, h1, h2⟩
  · exact .inl h1
  · exact .inr ⟨g', cap, cur, h0, by omega, h2⟩
/-- The cells of a row of pairs. -/
def pcells (l : List (Int × Int)) : List Value := l.flatMap fun p => [.int .u32 p.1, .int .i64 p.2]
theorem pcells_snoc (l : List (Int × Int)) (c n : Int) : pcells (l ++ [(c, n)]) = pcells l ++ [.int .u32 c, .int .i64 n] := by simp [pcells]
theorem pcells_length (l : List (Int × Int)) : (pcells l).length = l.length * 2 := by
  induction l with
  | nil => rfl
  | cons p t ih => simp [pcells] at ih ⊢; omega
theorem pcells_at : ∀ (l : List (Int × Int)) (k : Nat) (h : k < l.length), (pcells l)[k * 2]? = some (.int .u32 l[k].1) ∧ (pcells l)[k * 2 + 1]? = some (.int .i64 l[k].2)
  | p :: t, 0, _ => by simp [pcells]
  | p :: t, k + 1, h => by
    obtain ⟨h1, h2⟩ := pcells_at t k (by simpa using h)
    have e : pcells (p :: t) = .int .u32 p.1 :: .int .i64 p.2 :: pcells t := by simp [pcells]
    rw [e, show (k + 1) * 2 = k * 2 + 1 + 1 by omega]
    simpa using ⟨h1, h2⟩
/-- A row of pairs of the call's own reads as one. -/
theorem own_pairs {w : World} {B c : Nat} {A : Option Addr} {l : List (Int × Int)} (h : w.ownsRow B 90 2 (.slice A l.length c) l.length (pcells l)) : PairsAt w w.heap.size A l := fun hl => by
  obtain ⟨g, cur, rfl, hb, hB, h1, h2, h3, h4⟩ := own_blk h hl
  refine ⟨g, 0, rfl, hB.lt, fun k hk => ?_⟩
  obtain ⟨e1, e2⟩ := pcells_at l k hk
  rw [← h4] at e1 e2
  rw [List.getElem?_take, if_pos (by omega)] at e1 e2
  refine ⟨(hB.cell _).trans ?_, (hB.cell _).trans ?_⟩
  · rw [Nat.zero_add, ← e1]; simp
  · rw [Nat.zero_add, ← e2]; simp
theorem pairs_reads {w : World} {B : Nat} {A : Option Addr} {l : List (Int × Int)} (h : PairsAt w B A l) : Reads w B 2 A l.length (pcells l) :=
  ⟨pcells_length l, fun hn => by
    obtain ⟨b, off, e, hb, hc⟩ := h hn
    refine ⟨_, e, hb, fun j u hu => ?_⟩
    obtain ⟨hj, _⟩ := List.getElem?_eq_some_iff.1 hu
    rw [pcells_length] at hj
    obtain ⟨e1, e2⟩ := pcells_at l (j / 2) (by omega)
    obtain ⟨c1, c2⟩ := hc (j / 2) (by omega)
    rw [add_none]
    rcases (show j = j / 2 * 2 ∨ j = j / 2 * 2 + 1 by omega) with ej | ej
    · rw [ej, e1] at hu; rw [ej, c1, hu]
    · rw [ej, e2] at hu; rw [ej, ← Nat.add_assoc, c2, hu]⟩
theorem pcells_one (l : List (Int × Int)) : ∀ u ∈ pcells l, u.oneCell' = true := by
  intro u hu
  simp only [pcells, List.mem_flatMap] at hu
  obtain ⟨p, _, hu⟩ := hu
  simp at hu
  rcases hu with rfl | rfl <;> rfl
theorem Try.info90 : (Try.prog.info? 90).map (fun i => (i.zero, i.size, i.bytes)) = some (some (.agg #[.int .u32 0, .int .i64 0]), 2, 16) := by kernel_rfl
theorem pair_new (w : World) (c n : Int) : ∀ j u, [Value.int .u32 c, .int .i64 n][j]? = some u → (w.alloc (.cells #[.int .u32 c, .int .i64 n] 90)).cell? ((⟨w.heap.size, 0, none⟩ : Addr).add j) = some u := fun j u hu => by
  rw [add_none, Nat.zero_add]
  refine ((Blk.new w 90 #[.int .u32 c, .int .i64 n]).cell j).trans ?_
  rw [← hu]; simp
theorem pair_one (c n : Int) : ∀ u ∈ [Value.int .u32 c, .int .i64 n], u.oneCell' = true := by intro u hu; simp at hu; rcases hu with rfl | rfl <;> rfl
end Go.Proofs.Ytihddficgpjgpaa
namespace Go.Proofs.Ytihddficgpjgpaa
open Go.RowKit Go.ChangeShapes Go.WideShapes Go.Shelf
/-- How going over ends: with all, or where it was said that it is enough. -/
def BothEnd (L : List (Int × Int × Int)) (J Jx : List (Int × Int × Int) → World → Prop) (w' : World) : Prop := J L w' ∨ ∃ pre, pre <+: L ∧ Jx pre w'
/-- How a call of the yield ends. -/
def YieldEnd (J Jx : List (Int × Int × Int) → World → Prop) (pre : List (Int × Int × Int)) (e : Ending) (w' : World) : Prop :=
  (e = .returned (.bool true) ∧ J pre w') ∨ (e = .returned (.bool false) ∧ Jx pre w')
/-- What going over needs of memory. -/
def BothMem (ga gb B : Nat) (Aa Ab : Option Addr) (ca cb : Nat) (a b : Lab) (W : World) : Prop :=
  Blk W ga 39 #[.int .i64 a.d, .slice Aa a.ps.length ca] ∧ Blk W gb 39 #[.int .i64 b.d, .slice Ab b.ps.length cb] ∧ PairsAt W B Aa a.ps ∧ PairsAt W B Ab b.ps
def BothYields (kf : Nat) (caps : Array Value) (a b : Lab) (J Jx : List (Int × Int × Int) → World → Prop) : Prop :=
  ∀ (pre : List (Int × Int × Int)) (c x y : Int) (W : World), J pre W → pre ++ [(c, x, y)] <+: bothL a b → Calls Try.prog kf (#[.int .u32 c, .int .i64 x, .int .i64 y] ++ caps) W (YieldEnd J Jx (pre ++ [(c, x, y)]))
/-- Between two rounds. -/
def RBoth (a b : Lab) (J : List (Int × Int × Int) → World → Prop) (v4 v5 : Value) (wr : World) : Prop :=
  ∃ (i k : Nat) (pre : List (Int × Int × Int)), i ≤ a.ps.length ∧ k ≤ b.ps.length ∧ v4 = .int .i64 i ∧ v5 = .int .i64 k ∧ J pre wr ∧ pre ++ bothP a.d b.d (a.ps.drop i) (b.ps.drop k) = bothL a b
theorem both_l (da db : Int) {ps qs : List (Int × Int)} {i k : Nat} (hi : i < ps.length) (h : ∀ hk : k < qs.length, ps[i].1 < qs[k].1) : bothP da db (ps.drop i) (qs.drop k) = (ps[i].1, ps[i].2, db) :: bothP da db (ps.drop (i + 1)) (qs.drop k) := by
  rw [List.drop_eq_getElem_cons hi]
  by_cases hk : k < qs.length
  · rw [List.drop_eq_getElem_cons hk, bothP, if_pos (h hk)]
  · rw [List.drop_eq_nil_of_le (show qs.length ≤ k by omega), bothP]
theorem both_r (da db : Int) {ps qs : List (Int × Int)} {i k : Nat} (hk : k < qs.length) (h : ∀ hi : i < ps.length, qs[k].1 < ps[i].1) : bothP da db (ps.drop i) (qs.drop k) = (qs[k].1, da, qs[k].2) :: bothP da db (ps.drop i) (qs.drop (k + 1)) := by
  rw [List.drop_eq_getElem_cons hk]
  by_cases hi : i < ps.length
  · rw [List.drop_eq_getElem_cons hi, bothP, if_neg (by have := h hi; omega), if_pos (h hi)]
  · rw [List.drop_eq_nil_of_le (show ps.length ≤ i by omega), bothP]
theorem both_b (da db : Int) {ps qs : List (Int × Int)} {i k : Nat} (hi : i < ps.length) (hk : k < qs.length) (h : ps[i].1 = qs[k].1) : bothP da db (ps.drop i) (qs.drop k) = (ps[i].1, ps[i].2, qs[k].2) :: bothP da db (ps.drop (i + 1)) (qs.drop (k + 1)) := by
  rw [List.drop_eq_getElem_cons hi, List.drop_eq_getElem_cons hk, bothP, if_neg (by omega), if_neg (by omega)]
theorem step_pre {α : Type} {pre r L : List α} {x : α} (h : pre ++ x :: r = L) : pre ++ [x] <+: L ∧ (pre ++ [x]) ++ r = L := ⟨⟨r, by rw [← h]; simp⟩, by rw [← h]; simp⟩
set_option maxRecDepth 100000 in
set_option maxHeartbeats 1600000 in
theorem both_any (kf : Nat) (caps : Array Value) (eg : ∀ args w, (callFunc kf args).run Try.prog w = .ok (.enter kf args) w) (ga gb B : Nat) (Aa Ab : Option Addr) (ca cb : Nat) (a b : Lab)
    (J Jx : List (Int × Int × Int) → World → Prop) (hmem : ∀ pre W, J pre W → BothMem ga gb B Aa Ab ca cb a b W) (hJd : ∀ pre W n, J pre W → J pre (W.drewN n))
    (hy : BothYields kf caps a b J Jx) (hla : a.ps.length ≤ 100000) (hlb : b.ps.length ≤ 100000) (w : World) (h0 : J [] w) :
    Calls Try.prog 132 #[.func (.func kf) #[] caps, .pointer (some ⟨ga, 0, none⟩), .pointer (some ⟨gb, 0, none⟩)] w fun e w' => e = .returned (.tuple #[]) ∧ BothEnd (bothL a b) J Jx w' := by
  have HM := Lib.hid hmem
  have HJd := Lib.hid hJd
  clear hmem hJd
  have hm := HM.out _ _ h0
  obtain ⟨k1, k2, _, _⟩ := hm
  have e1 := k1.cell 0
  have e2 := k2.cell 0
  simp at e1 e2
  have hy0 := hy [] 0 a.d b.d w h0 ⟨_, rfl⟩
  have HY := Lib.hid hy
  clear hy k1 k2
  go_enter Try.func132, Try.ntmps132
  go_wp2_with (go_at_fn kf; refine hy0.mono ?_; rintro e w1 (⟨rfl, hj1⟩ | ⟨rfl, hx1⟩))
  rotate_left
  · refine bodyPost_ret (results_none rfl _ _ _) rfl ?_
    exact ⟨rfl, .inr ⟨_, ⟨_, rfl⟩, hx1⟩⟩
  have r1 : RBoth a b J (.int .i64 0) (.int .i64 0) w1 := ⟨0, 0, _, Nat.zero_le _, Nat.zero_le _, rfl, rfl, hj1, rfl⟩
  clear hj1 h0 e1 e2 hy0
  go_loopw [4, 5] (fun v4 v5 wr => RBoth a b J v4 v5 wr) (fun v4 v5 _ => (a.ps.length - (intOf v4).toNat) + (b.ps.length - (intOf v5).toNat))
  case atStart => exact r1
  case round =>
    clear r1
    obtain ⟨i, k, pre, hi, hk, rfl, rfl, hj, he⟩ := hrel
    have HE := Lib.hid he
    clear he
    obtain ⟨k1, k2, p1, p2⟩ := HM.out _ _ hj
    have e10 := k1.cell 0
    have e11 := k1.cell 1
    have e20 := k2.cell 0
    have e21 := k2.cell 1
    simp at e10 e11 e20 e21
    clear k1 k2
    by_cases hlt : i < a.ps.length
    · by_cases hlk : k < b.ps.length
      · obtain ⟨b1, o1, rfl, _, hc1⟩ := p1 (by omega)
        obtain ⟨c1, c2⟩ := hc1 i hlt
        obtain ⟨b2, o2, rfl, _, hc2⟩ := p2 (by omega)
        obtain ⟨c3, c4⟩ := hc2 k hlk
        rcases Int.lt_trichotomy a.ps[i].1 b.ps[k].1 with hcmp | hcmp | hcmp
        · have HS := Lib.hid (step_pre ((congrArg (pre ++ ·) (both_l a.d b.d hlt (fun _ => hcmp))).symm.trans HE.out))
          have HC := Lib.hid (fun n => HY.out pre a.ps[i].1 a.ps[i].2 b.d _ (HJd.out pre wr n hj) HS.out.1)
          generalize a.ps[i] = pa at *
          obtain ⟨cat, lev⟩ := pa
          generalize b.ps[k] = pb at *
          obtain ⟨cat2, lev2⟩ := pb
          clear hc1 hc2
          simp only at c1 c2 c3 c4 HC HS hcmp
          have g1 : ((k : Int) == (b.ps.length : Int)) = false := by simp; omega
          have g2 : ((i : Int) == (a.ps.length : Int)) = false := by simp; omega
          have g3 : decide ((i : Int) < (a.ps.length : Int)) = true := by simp; omega
          have g4 : decide (cat < cat2) = true := by simpa using hcmp
          go_wp2_with fail
          go_quiet (fail)
          go_wp2_with fail
          go_quiet (fail)
          go_wp2_with fail
          go_quiet (fail)
          go_wp2_with fail
          refine (HC.out _).mono ?_
          rintro e w2 (⟨rfl, hj2⟩ | ⟨rfl, hx2⟩)
          · go_wp2_with fail
            go_roundw
            case rel => exact ⟨i + 1, k, _, by omega, by omega, by go_num, by go_num, hj2, HS.out.2⟩
            case measure => simp [intOf]; omega
          · go_wp2_with fail
            refine bodyPost_ret (results_none rfl _ _ _) rfl ?_
            exact ⟨rfl, .inr ⟨_, HS.out.1, hx2⟩⟩
          
        · have HS := Lib.hid (step_pre ((congrArg (pre ++ ·) (both_b a.d b.d hlt hlk hcmp)).symm.trans HE.out))
          have HC := Lib.hid (fun n => HY.out pre a.ps[i].1 a.ps[i].2 b.ps[k].2 _ (HJd.out pre wr n hj) HS.out.1)
          generalize a.ps[i] = pa at *
          obtain ⟨cat, lev⟩ := pa
          generalize b.ps[k] = pb at *
          obtain ⟨cat2, lev2⟩ := pb
          clear hc1 hc2
          simp only at c1 c2 c3 c4 HC HS hcmp
          subst hcmp
          have g1 : ((k : Int) == (b.ps.length : Int)) = false := by simp; omega
          have g2 : ((i : Int) == (a.ps.length : Int)) = false := by simp; omega
          have g3 : decide ((i : Int) < (a.ps.length : Int)) = true := by simp; omega
          have g4 : decide (cat < cat) = false := by simp
          go_wp2_with fail
          go_quiet (fail)
          go_wp2_with fail
          go_quiet (fail)
          go_wp2_with fail
          go_quiet (fail)
          go_wp2_with fail
          go_quiet (fail)
          go_wp2_with fail
          refine (HC.out _).mono ?_
          rintro e w2 (⟨rfl, hj2⟩ | ⟨rfl, hx2⟩)
          · go_wp2_with fail
            go_roundw
            case rel => exact ⟨i + 1, k + 1, _, by omega, by omega, by go_num, by go_num, hj2, HS.out.2⟩
            case measure => simp [intOf]; omega
          · go_wp2_with fail
            refine bodyPost_ret (results_none rfl _ _ _) rfl ?_
            exact ⟨rfl, .inr ⟨_, HS.out.1, hx2⟩⟩
          
        · have HS := Lib.hid (step_pre ((congrArg (pre ++ ·) (both_r a.d b.d hlk (fun _ => hcmp))).symm.trans HE.out))
          have HC := Lib.hid (fun n => HY.out pre b.ps[k].1 a.d b.ps[k].2 _ (HJd.out pre wr n hj) HS.out.1)
          generalize a.ps[i] = pa at *
          obtain ⟨cat, lev⟩ := pa
          generalize b.ps[k] = pb at *
          obtain ⟨cat2, lev2⟩ := pb
          clear hc1 hc2
          simp only at c1 c2 c3 c4 HC HS hcmp
          have g1 : ((k : Int) == (b.ps.length : Int)) = false := by simp; omega
          have g2 : ((i : Int) == (a.ps.length : Int)) = false := by simp; omega
          have g3 : decide ((i : Int) < (a.ps.length : Int)) = true := by simp; omega
          have g4 : decide (cat < cat2) = false := by simp; omega
          have g5 : decide (cat2 < cat) = true := by simpa using hcmp
          go_wp2_with fail
          go_quiet (fail)
          go_wp2_with fail
          go_quiet (fail)
          go_wp2_with fail
          go_quiet (fail)
          go_wp2_with fail
          go_quiet (fail)
          go_wp2_with fail
          refine (HC.out _).mono ?_
          rintro e w2 (⟨rfl, hj2⟩ | ⟨rfl, hx2⟩)
          · go_wp2_with fail
            go_roundw
            case rel => exact ⟨i, k + 1, _, by omega, by omega, by go_num, by go_num, hj2, HS.out.2⟩
            case measure => simp [intOf]; omega
          · go_wp2_with fail
            refine bodyPost_ret (results_none rfl _ _ _) rfl ?_
            exact ⟨rfl, .inr ⟨_, HS.out.1, hx2⟩⟩
          
      · obtain ⟨b1, o1, rfl, _, hc1⟩ := p1 (by omega)
        obtain ⟨c1, c2⟩ := hc1 i hlt
        have HS := Lib.hid (step_pre ((congrArg (pre ++ ·) (both_l a.d b.d hlt (fun h => absurd h hlk))).symm.trans HE.out))
        have HC := Lib.hid (fun n => HY.out pre a.ps[i].1 a.ps[i].2 b.d _ (HJd.out pre wr n hj) HS.out.1)
        obtain rfl : k = b.ps.length := by omega
        generalize a.ps[i] = pa at *
        obtain ⟨cat, lev⟩ := pa
        clear hc1 p2
        simp only at c1 c2 HC HS
        have g1 : ((b.ps.length : Int) == (b.ps.length : Int)) = true := by simp
        have g2 : ((i : Int) == (a.ps.length : Int)) = false := by simp; omega
        have g3 : decide ((i : Int) < (a.ps.length : Int)) = true := by simp; omega
        go_wp2_with fail
        go_quiet (fail)
        go_wp2_with fail
        go_quiet (fail)
        go_wp2_with fail
        go_quiet (fail)
        go_wp2_with fail
        refine (HC.out _).mono ?_
        rintro e w2 (⟨rfl, hj2⟩ | ⟨rfl, hx2⟩)
        · go_wp2_with fail
          go_roundw
          case rel => exact ⟨i + 1, b.ps.length, _, by omega, by omega, by go_num, by go_num, hj2, HS.out.2⟩
          case measure => simp [intOf]; omega
        · go_wp2_with fail
          refine bodyPost_ret (results_none rfl _ _ _) rfl ?_
          exact ⟨rfl, .inr ⟨_, HS.out.1, hx2⟩⟩
        
    · by_cases hlk : k < b.ps.length
      · obtain ⟨b2, o2, rfl, _, hc2⟩ := p2 (by omega)
        obtain ⟨c3, c4⟩ := hc2 k hlk
        have HS := Lib.hid (step_pre ((congrArg (pre ++ ·) (both_r a.d b.d hlk (fun h => absurd h hlt))).symm.trans HE.out))
        have HC := Lib.hid (fun n => HY.out pre b.ps[k].1 a.d b.ps[k].2 _ (HJd.out pre wr n hj) HS.out.1)
        obtain rfl : i = a.ps.length := by omega
        generalize b.ps[k] = pb at *
        obtain ⟨cat2, lev2⟩ := pb
        clear hc2 p1
        simp only at c3 c4 HC HS
        have g1 : ((k : Int) == (b.ps.length : Int)) = false := by simp; omega
        have g2 : ((a.ps.length : Int) == (a.ps.length : Int)) = true := by simp
        have g3 : decide ((a.ps.length : Int) < (a.ps.length : Int)) = false := by simp
        go_wp2_with fail
        go_quiet (fail)
        go_wp2_with fail
        go_quiet (fail)
        go_wp2_with fail
        go_quiet (fail)
        go_wp2_with fail
        go_quiet (fail)
        go_wp2_with fail
        refine (HC.out _).mono ?_
        rintro e w2 (⟨rfl, hj2⟩ | ⟨rfl, hx2⟩)
        · go_wp2_with fail
          go_roundw
          case rel => exact ⟨a.ps.length, k + 1, _, by omega, by omega, by go_num, by go_num, hj2, HS.out.2⟩
          case measure => simp [intOf]; omega
        · go_wp2_with fail
          refine bodyPost_ret (results_none rfl _ _ _) rfl ?_
          exact ⟨rfl, .inr ⟨_, HS.out.1, hx2⟩⟩
        
      · obtain rfl : i = a.ps.length := by omega
        obtain rfl : k = b.ps.length := by omega
        have HF : Hid (pre = bothL a b) := by
          show _ = _
          have := HE.out
          rw [List.drop_length, List.drop_length, bothP, List.append_nil] at this
          exact this
        clear HE p1 p2
        go_wp2_with fail
        go_end0
        exact ⟨rfl, .inl (by rw [← HF.out]; exact hj)⟩
end Go.Proofs.Ytihddficgpjgpaa
namespace Go.Proofs.Ytihddficgpjgpaa
open Go.RowKit Go.ChangeShapes Go.WideShapes Go.Shelf
/-- What has come of some triples. -/
def outL (f : Int → Int → Int) : List (Int × Int × Int) → Lab
  | [] => ⟨0, []⟩
  | x :: t => ⟨f x.2.1 x.2.2, (t.map fun x => (x.1, f x.2.1 x.2.2)).filter fun p => decide (p.2 ≠ f x.2.1 x.2.2)⟩
theorem outL_all (f : Int → Int → Int) (a b : Lab) : outL f (bothL a b) = mergeL f a b := rfl
theorem own_set {w : World} {B n g size : Nat} {e t : TypeId} {v : Value} {xs : List Value} {cs : Array Value} {i : Nat} (h : w.ownsRow B e size v n xs) (hg : Blk w g t cs) (hne : e ≠ t) (u : Value) : (w.setCell ⟨g, i, none⟩ u).ownsRow B e size v n xs := by
  refine ⟨h.1, ?_⟩
  rcases h.2 with h1 | ⟨g', cap, cur, h0, h1, h2, h3⟩
  · exact .inl h1
  · exact .inr ⟨g', cap, cur, h0, h1, Blk.far (g := g') h2 (Blk.ne_ (w := w) (g := g') h2 hg hne) u, h3⟩
theorem merge1_zero (fk : Nat) (fcaps : Array Value) (egf : ∀ args w, (callFunc fk args).run Try.prog w = .ok (.enter fk args) w) (gf go : Nat) (x y n : Int) (A : Option Addr) (m c : Nat) (d : Int) (w : World)
    (hf : Calls Try.prog fk (#[.int .i64 x, .int .i64 y] ++ fcaps) w fun e w' => e = .returned (.int .i64 n) ∧ w = w')
    (hgf : Blk w gf 133 #[.func (.func fk) #[] fcaps]) (hgo : Blk w go 39 #[.int .i64 d, .slice A m c]) :
    Calls Try.prog 128 #[.int .u32 0, .int .i64 x, .int .i64 y, .pointer (some ⟨gf, 0, none⟩), .pointer (some ⟨go, 0, none⟩)] w fun e w' => e = .returned (.bool true) ∧ w' = w.setCell ⟨go, 0, none⟩ (.int .i64 n) := by
  have e0 := hgf.cell 0
  have e1 := hgo.cell 0
  have f1 := hgo.frozen 0
  simp at e0 e1
  have HF := Lib.hid hf
  clear hgf hgo hf
  go_enter Try.func128, Try.ntmps128
  go_wp2_with (go_at_fn fk; refine HF.out.mono ?_; rintro e w' ⟨rfl, rfl⟩)
  go_ret
  exact ⟨rfl, rfl⟩
set_option maxHeartbeats 400000 in
theorem merge1_skip (fk : Nat) (fcaps : Array Value) (egf : ∀ args w, (callFunc fk args).run Try.prog w = .ok (.enter fk args) w) (gf go : Nat) (cat x y d : Int) (A : Option Addr) (m c : Nat) (w : World) (hcat : 0 < cat)
    (hf : Calls Try.prog fk (#[.int .i64 x, .int .i64 y] ++ fcaps) w fun e w' => e = .returned (.int .i64 d) ∧ w = w')
    (hgf : Blk w gf 133 #[.func (.func fk) #[] fcaps]) (hgo : Blk w go 39 #[.int .i64 d, .slice A m c]) :
    Calls Try.prog 128 #[.int .u32 cat, .int .i64 x, .int .i64 y, .pointer (some ⟨gf, 0, none⟩), .pointer (some ⟨go, 0, none⟩)] w fun e w' => e = .returned (.bool true) ∧ w = w' := by
  have e0 := hgf.cell 0
  have e1 := hgo.cell 0
  simp at e0 e1
  have HF := Lib.hid hf
  have hb : (cat == 0) = false := by simp; omega
  clear hgf hgo hf
  go_enter Try.func128, Try.ntmps128
  go_wp2_with (go_at_fn fk; refine HF.out.mono ?_; rintro e w' ⟨rfl, rfl⟩)
  go_ret
  exact ⟨rfl, rfl⟩
set_option maxRecDepth 100000 in
set_option maxHeartbeats 800000 in
theorem merge1_put (fk : Nat) (fcaps : Array Value) (egf : ∀ args w, (callFunc fk args).run Try.prog w = .ok (.enter fk args) w) (gf go B : Nat) (cat x y d n : Int) (A : Option Addr) (c : Nat) (ps : List (Int × Int)) (w : World) (hcat : 0 < cat) (hnd : n ≠ d) (hl : ps.length ≤ 1000000)
    (hf : Calls Try.prog fk (#[.int .i64 x, .int .i64 y] ++ fcaps) w fun e w' => e = .returned (.int .i64 n) ∧ w = w')
    (hgf : Blk w gf 133 #[.func (.func fk) #[] fcaps]) (hgo : Blk w go 39 #[.int .i64 d, .slice A ps.length c]) (hown : w.ownsRow B 90 2 (.slice A ps.length c) ps.length (pcells ps)) (hB : B ≤ w.heap.size) (hBo : B ≤ go) :
    Calls Try.prog 128 #[.int .u32 cat, .int .i64 x, .int .i64 y, .pointer (some ⟨gf, 0, none⟩), .pointer (some ⟨go, 0, none⟩)] w fun e w' => ∃ A' c', e = .returned (.bool true) ∧ Blk w' go 39 #[.int .i64 d, .slice A' (ps.length + 1) c'] ∧ w'.ownsRow B 90 2 (.slice A' (ps.length + 1) c') (ps.length + 1) (pcells (ps ++ [(cat, n)])) ∧
      Below B w w' ∧ (∀ g t cs, Blk w g t cs → t ≠ 90 → g ≠ go → Blk w' g t cs) := by
  obtain ⟨i0, hi0, hz0, hz1, hz2⟩ := info_parts Try.info90
  have e0 := hgf.cell 0
  have e1 := hgo.cell 0
  have e2 := hgo.cell 1
  simp at e0 e1 e2
  have HF := Lib.hid hf
  have HO := Lib.hid hown
  have hb : (cat == 0) = false := by simp; omega
  have hb2 : (n != d) = true := by simpa using hnd
  have hown' := hown.alloc (.cells #[.int .u32 cat, .int .i64 n] 90)
  have hcn := Lib.hid (pair_new w cat n)
  have ho1 := Lib.hid (pair_one cat n)
  have HOB := Lib.hid (fun b (hb : (Value.slice A ps.length c).ownBlock = some b) => own_row_blk hown hb)
  have HG := Lib.hid hgo
  clear hgf hf hnd hgo
  go_enter Try.func128, Try.ntmps128
  go_wp2_with (first
    | (go_at_fn fk; refine HF.out.mono ?_; rintro e w' ⟨rfl, rfl⟩)
    | (at_builtin; refine wpList_append_own_at _ rfl _ _ 37 rfl B 90 i0 _ 2 16 Try.underlying37 hi0 hz0 hz1 hz2 rfl (by decide) (.slice A ps.length c) _ _ rfl hown' ⟨w.heap.size, 0, none⟩ 1 1 [.int .u32 cat, .int .i64 n] rfl rfl hcn.out ho1.out (by unfold maxLen; omega) (by omega) (by simp; omega) ?_; intro v2 w2 o2 g2 _ a2; obtain ⟨A2, c2, rfl⟩ := own_slice o2; clear a2
       have kgo := (HG.out.alloc (.cells #[.int .u32 cat, .int .i64 n] 90)).grown g2 (own_ne hown' (HG.out.alloc _) (by decide)); have e3 := kgo.cell 1; have f3 := kgo.frozen 1; simp at e3))
  go_ret
  have G := only_trans (only_alloc (only_refl w (Value.slice A ps.length c).ownBlock) _) g2
  refine ⟨A2, c2, rfl, by simpa using kgo.set_ 1 _, ?_, ?_, ?_⟩
  · rw [pcells_snoc]
    exact own_set o2 kgo (by decide) _
  · exact (((Below.refl B w).alloc hB _).grown g2 (by simp; omega) (fun b hb => (HOB.out b hb).1)).setCell (p := ⟨go, 1, none⟩) hBo _
  · intro g t cs hg ht hne
    refine (hg.grown G (own_ne HO.out hg (Ne.symm ht))).far ?_ _
    exact hne
/-- Between two calls: what has been made lies in the variable go. -/
structure JM (w : World) (f : Int → Int → Int) (ga gb gf gr go : Nat) (Aa Ab : Option Addr) (ca cb : Nat) (a b : Lab) (fk : Nat) (fcaps : Array Value) (pre : List (Int × Int × Int)) (W : World) : Prop where
  mem : BothMem ga gb w.heap.size Aa Ab ca cb a b W
  bf : Blk W gf 133 #[.func (.func fk) #[] fcaps]
  br : Blk W gr 39 #[.int .i64 0, .slice none 0 0]
  out : ∃ A c, Blk W go 39 #[.int .i64 (outL f pre).d, .slice A (outL f pre).ps.length c] ∧ W.ownsRow w.heap.size 90 2 (.slice A (outL f pre).ps.length c) (outL f pre).ps.length (pcells (outL f pre).ps)
  bl : Below w.heap.size w W
theorem outL_snoc (f : Int → Int → Int) (p : Int × Int × Int) (t : List (Int × Int × Int)) (c x y : Int) : outL f (p :: t ++ [(c, x, y)]) = if f x y = (outL f (p :: t)).d then outL f (p :: t) else ⟨(outL f (p :: t)).d, (outL f (p :: t)).ps ++ [(c, f x y)]⟩ := by
  split
  · rename_i h
    simp only [outL, List.cons_append, List.map_append, List.filter_append] at h ⊢
    simp [h]
  · rename_i h
    simp only [outL, List.cons_append, List.map_append, List.filter_append] at h ⊢
    simp [h]
theorem outL_length (f : Int → Int → Int) (pre : List (Int × Int × Int)) : (outL f pre).ps.length ≤ pre.length := by
  cases pre with
  | nil => simp [outL]
  | cons p t =>
    simp only [outL]
    refine Nat.le_trans (List.length_filter_le _ _) ?_
    simp
theorem bothL_length (a b : Lab) : (bothL a b).length ≤ a.ps.length + b.ps.length + 1 := by
  have := bothP_length a.d b.d _ a.ps b.ps (Nat.le_refl _)
  simp [bothL]; omega
theorem bothL_pre {a b : Lab} (ha : Good a) (hb : Good b) {pre : List (Int × Int × Int)} {c x y : Int} (h : pre ++ [(c, x, y)] <+: bothL a b) : (pre = [] ∧ c = 0) ∨ (∃ p t, pre = p :: t ∧ 0 < c) := by
  cases pre with
  | nil =>
    obtain ⟨r, hr⟩ := h
    simp [bothL] at hr
    exact .inl ⟨rfl, hr.1.1⟩
  | cons p t =>
    refine .inr ⟨p, t, rfl, ?_⟩
    obtain ⟨r, hr⟩ := h
    simp only [bothL, List.cons_append, List.cons.injEq] at hr
    have hin : (c, x, y) ∈ bothP a.d b.d a.ps b.ps := by rw [← hr.2]; simp
    exact (bothP_rise a.d b.d _ a.ps b.ps 0 (Nat.le_refl _) ha.rise hb.rise).lt _ hin
section
variable {w : World} {f : Int → Int → Int} {ga gb gf gr go : Nat} {Aa Ab : Option Addr} {ca cb : Nat} {a b : Lab} {fk : Nat} {fcaps : Array Value}
theorem JM.drewN {pre : List (Int × Int × Int)} {W : World} (h : JM w f ga gb gf gr go Aa Ab ca cb a b fk fcaps pre W) (n : Nat) : JM w f ga gb gf gr go Aa Ab ca cb a b fk fcaps pre (W.drewN n) :=
  ⟨h.mem, h.bf, h.br, h.out, below_drewN h.bl n⟩
/-- One more: all but the variable go and the row is as it was. -/
theorem JM.next {pre pre' : List (Int × Int × Int)} {W W' : World} (h : JM w f ga gb gf gr go Aa Ab ca cb a b fk fcaps pre W) (hne : ga ≠ go ∧ gb ≠ go ∧ gf ≠ go ∧ gr ≠ go)
    (hk : ∀ g t cs, Blk W g t cs → t ≠ 90 → g ≠ go → Blk W' g t cs) (hb : Below w.heap.size W W')
    (ho : ∃ A c, Blk W' go 39 #[.int .i64 (outL f pre').d, .slice A (outL f pre').ps.length c] ∧ W'.ownsRow w.heap.size 90 2 (.slice A (outL f pre').ps.length c) (outL f pre').ps.length (pcells (outL f pre').ps)) :
    JM w f ga gb gf gr go Aa Ab ca cb a b fk fcaps pre' W' := by
  obtain ⟨m1, m2, m3, m4⟩ := h.mem
  exact ⟨⟨hk _ _ _ m1 (by decide) hne.1, hk _ _ _ m2 (by decide) hne.2.1, m3.below hb, m4.below hb⟩, hk _ _ _ h.bf (by decide) hne.2.2.1, hk _ _ _ h.br (by decide) hne.2.2.2, ho, h.bl.trans hb⟩
theorem merge_yields (egf : ∀ args w, (callFunc fk args).run Try.prog w = .ok (.enter fk args) w) (ha : Good a) (hb : Good b) (hl : a.ps.length + b.ps.length ≤ 100000)
    (hf : ∀ x y W, Below w.heap.size w W → Calls Try.prog fk (#[.int .i64 x, .int .i64 y] ++ fcaps) W fun e w' => e = .returned (.int .i64 (f x y)) ∧ W = w')
    (hne : ga ≠ go ∧ gb ≠ go ∧ gf ≠ go ∧ gr ≠ go) (hgo : w.heap.size ≤ go) :
    BothYields 128 #[.pointer (some ⟨gf, 0, none⟩), .pointer (some ⟨go, 0, none⟩)] a b (JM w f ga gb gf gr go Aa Ab ca cb a b fk fcaps) (fun _ _ => False) := by
  intro pre c x y W hj hpre
  have hlen : pre.length ≤ 100000 := by
    have h1 := hpre.length_le
    have h2 := bothL_length a b
    simp at h1; omega
  obtain ⟨A, cc, ho1, ho2⟩ := hj.out
  rcases bothL_pre ha hb hpre with ⟨rfl, rfl⟩ | ⟨p, t, rfl, hc⟩
  · refine (merge1_zero fk fcaps egf gf go x y (f x y) A _ cc _ W (hf x y W hj.bl) hj.bf ho1).mono ?_
    rintro e w' ⟨rfl, rfl⟩
    refine .inl ⟨rfl, hj.next hne (fun g t cs hg _ hn => hg.far hn _) ((Below.refl _ W).setCell (p := ⟨go, 0, none⟩) hgo _) ⟨A, cc, ?_, ?_⟩⟩
    · exact ho1.set_ 0 (.int .i64 (f x y))
    · exact own_set ho2 ho1 (by decide) _
  · by_cases hd : f x y = (outL f (p :: t)).d
    · have hff := hf x y W hj.bl
      rw [hd] at hff
      refine (merge1_skip fk fcaps egf gf go c x y (outL f (p :: t)).d A _ cc W hc hff hj.bf ho1).mono ?_
      rintro e w' ⟨rfl, rfl⟩
      have e1 := outL_snoc f p t c x y
      rw [if_pos hd] at e1
      refine .inl ⟨rfl, hj.next hne (fun g t cs hg _ hn => hg) (Below.refl _ W) ⟨A, cc, ?_, ?_⟩⟩
      · rw [e1]; exact ho1
      · rw [e1]; exact ho2
    · have hlo := outL_length f (p :: t)
      refine (merge1_put fk fcaps egf gf go w.heap.size c x y (outL f (p :: t)).d (f x y) A cc (outL f (p :: t)).ps W hc hd (by omega) (hf x y W hj.bl) hj.bf ho1 ho2 hj.bl.size hgo).mono ?_
      rintro e w' ⟨A', c', rfl, h1, h2, h3, h4⟩
      have e1 := outL_snoc f p t c x y
      rw [if_neg hd] at e1
      have e2 : ((outL f (p :: t)).ps ++ [(c, f x y)]).length = (outL f (p :: t)).ps.length + 1 := by simp
      refine .inl ⟨rfl, hj.next hne h4 h3 ⟨A', c', ?_, ?_⟩⟩
      · rw [e1]; simp only [e2]; exact h1
      · rw [e1]; simp only [e2]; exact h2
end
theorem both_make (Aa Ab : Option Addr) (na nb ca cb : Nat) (da db : Int) (w : World) :
    Calls Try.prog 126 #[.agg #[.int .i64 da, .slice Aa na ca], .agg #[.int .i64 db, .slice Ab nb cb]] w fun e w' => e = .returned (.func (.func 132) #[] #[.pointer (some ⟨w.heap.size, 0, none⟩), .pointer (some ⟨w.heap.size + 1, 0, none⟩)]) ∧
      w' = (w.alloc (.cells #[.int .i64 da, .slice Aa na ca] 39)).alloc (.cells #[.int .i64 db, .slice Ab nb cb] 39) := by
  go_enter Try.func126, Try.ntmps126
  go_wp2
  go_ret
  exact ⟨by simp, rfl⟩
theorem jm_start (w : World) (f : Int → Int → Int) (Aa Ab : Option Addr) (ca cb : Nat) (a b : Lab) (fk : Nat) (fcaps : Array Value) (pa : PairsAt w w.heap.size Aa a.ps) (pb : PairsAt w w.heap.size Ab b.ps) :
    JM w f (w.heap.size + 1 + 1 + 1 + 1 + 1) (w.heap.size + 1 + 1 + 1 + 1 + 1 + 1) (w.heap.size + 1 + 1) (w.heap.size + 1 + 1 + 1) (w.heap.size + 1 + 1 + 1 + 1) Aa Ab ca cb a b fk fcaps []
      (((((((w.alloc (.cells #[.int .i64 a.d, .slice Aa a.ps.length ca] 39)).alloc (.cells #[.int .i64 b.d, .slice Ab b.ps.length cb] 39)).alloc (.cells #[.func (.func fk) #[] fcaps] 133)).alloc (.cells #[.int .i64 0, .slice none 0 0] 39)).alloc
        (.cells #[.int .i64 0, .slice none 0 0] 39)).alloc (.cells #[.int .i64 a.d, .slice Aa a.ps.length ca] 39)).alloc (.cells #[.int .i64 b.d, .slice Ab b.ps.length cb] 39)) := by
  have b0 := Below.refl w.heap.size w
  have b2 := (b0.alloc b0.size (.cells #[.int .i64 a.d, .slice Aa a.ps.length ca] 39)).alloc (by simp) (.cells #[.int .i64 b.d, .slice Ab b.ps.length cb] 39)
  have s2 : ((w.alloc (.cells #[.int .i64 a.d, .slice Aa a.ps.length ca] 39)).alloc (.cells #[.int .i64 b.d, .slice Ab b.ps.length cb] 39)).heap.size = w.heap.size + 1 + 1 := by simp
  generalize (w.alloc (.cells #[.int .i64 a.d, .slice Aa a.ps.length ca] 39)).alloc (.cells #[.int .i64 b.d, .slice Ab b.ps.length cb] 39) = w2 at *
  have k2 := Blk.new w2 133 #[.func (.func fk) #[] fcaps]
  have b3 := b2.alloc b2.size (.cells #[.func (.func fk) #[] fcaps] 133)
  have s3 : (w2.alloc (.cells #[.func (.func fk) #[] fcaps] 133)).heap.size = w.heap.size + 1 + 1 + 1 := by simp [s2]
  rw [s2] at k2
  generalize w2.alloc (.cells #[.func (.func fk) #[] fcaps] 133) = w3 at *
  have k3 := Blk.new w3 39 #[.int .i64 0, .slice none 0 0]
  have b4 := b3.alloc b3.size (.cells #[.int .i64 0, .slice none 0 0] 39)
  have s4 : (w3.alloc (.cells #[.int .i64 0, .slice none 0 0] 39)).heap.size = w.heap.size + 1 + 1 + 1 + 1 := by simp [s3]
  have j2 := k2.alloc (.cells #[.int .i64 0, .slice none 0 0] 39)
  rw [s3] at k3
  generalize w3.alloc (.cells #[.int .i64 0, .slice none 0 0] 39) = w4 at *
  have k4 := Blk.new w4 39 #[.int .i64 0, .slice none 0 0]
  have b5 := b4.alloc b4.size (.cells #[.int .i64 0, .slice none 0 0] 39)
  have s5 : (w4.alloc (.cells #[.int .i64 0, .slice none 0 0] 39)).heap.size = w.heap.size + 1 + 1 + 1 + 1 + 1 := by simp [s4]
  have i2 := j2.alloc (.cells #[.int .i64 0, .slice none 0 0] 39)
  have i3 := k3.alloc (.cells #[.int .i64 0, .slice none 0 0] 39)
  rw [s4] at k4
  generalize w4.alloc (.cells #[.int .i64 0, .slice none 0 0] 39) = w5 at *
  have k5 := Blk.new w5 39 #[.int .i64 a.d, .slice Aa a.ps.length ca]
  have b6 := b5.alloc b5.size (.cells #[.int .i64 a.d, .slice Aa a.ps.length ca] 39)
  have s6 : (w5.alloc (.cells #[.int .i64 a.d, .slice Aa a.ps.length ca] 39)).heap.size = w.heap.size + 1 + 1 + 1 + 1 + 1 + 1 := by simp [s5]
  have h2 := i2.alloc (.cells #[.int .i64 a.d, .slice Aa a.ps.length ca] 39)
  have h3 := i3.alloc (.cells #[.int .i64 a.d, .slice Aa a.ps.length ca] 39)
  have h4 := k4.alloc (.cells #[.int .i64 a.d, .slice Aa a.ps.length ca] 39)
  rw [s5] at k5
  generalize w5.alloc (.cells #[.int .i64 a.d, .slice Aa a.ps.length ca] 39) = w6 at *
  have k6 := Blk.new w6 39 #[.int .i64 b.d, .slice Ab b.ps.length cb]
  have b7 := b6.alloc b6.size (.cells #[.int .i64 b.d, .slice Ab b.ps.length cb] 39)
  rw [s6] at k6
  exact ⟨⟨k5.alloc _, k6, pa.below b7, pb.below b7⟩, h2.alloc _, h3.alloc _, ⟨none, 0, h4.alloc _, World.ownsRow_nil _ _ _ _⟩, b7⟩
theorem enters128 : ∀ args w, (callFunc 128 args).run Try.prog w = .ok (.enter 128 args) w := enters_of Try.func128 (by kernel_rfl) rfl
set_option maxRecDepth 100000 in
set_option maxHeartbeats 800000 in
theorem merge_any (fk : Nat) (fcaps : Array Value) (egf : ∀ args w, (callFunc fk args).run Try.prog w = .ok (.enter fk args) w) (f : Int → Int → Int) (va vb : Value) (a b : Lab) (w : World)
    (ha : LabV w w.heap.size va a) (hb : LabV w w.heap.size vb b) (hga : Good a) (hgb : Good b) (hl : a.ps.length + b.ps.length ≤ 100000)
    (hf : ∀ x y W, Below w.heap.size w W → Calls Try.prog fk (#[.int .i64 x, .int .i64 y] ++ fcaps) W fun e w' => e = .returned (.int .i64 (f x y)) ∧ W = w') :
    Calls Try.prog 108 #[va, vb, .func (.func fk) #[] fcaps] w fun e w' => ∃ v, e = .returned v ∧ LabV w' w'.heap.size v (mergeL f a b) ∧ Below w.heap.size w w' := by
  obtain ⟨Aa, ca, rfl, pa, la⟩ := ha
  obtain ⟨Ab, cb, rfl, pb, lb⟩ := hb
  have HF := Lib.hid hf
  clear hf la lb
  have HS := Lib.hid (jm_start w f Aa Ab ca cb a b fk fcaps pa pb)
  clear pa pb
  go_enter Try.func108, Try.ntmps108
  go_wp2_with (go_at_call 126; refine (both_make _ _ _ _ _ _ _ _ _).mono ?_; rintro e w' ⟨rfl, rfl⟩)
  refine (both_any 128 _ enters128 _ _ w.heap.size Aa Ab ca cb a b (JM w f _ _ (w.heap.size + 1 + 1) (w.heap.size + 1 + 1 + 1) (w.heap.size + 1 + 1 + 1 + 1) Aa Ab ca cb a b fk fcaps) (fun _ _ => False) (fun _ _ h => h.mem) (fun _ _ n h => h.drewN n)
    (merge_yields egf hga hgb hl HF.out (by omega) (by omega)) (by omega) (by omega) _ HS.out).mono ?_
  rintro e W ⟨rfl, hB⟩
  rcases hB with hJ | ⟨_, _, h⟩
  case inr => exact h.elim
  obtain ⟨A, c, k1, o1⟩ := hJ.out
  have k2 := hJ.br
  have HB := Lib.hid hJ.bl
  clear hJ HS HF
  rw [outL_all] at k1 o1
  have HO := Lib.hid o1
  clear o1
  have e0 := k1.cell 0
  have e1 := k1.cell 1
  have e2 := k2.cell 0
  have e3 := k2.cell 1
  have f2 := k2.frozen 0
  have f3 := k2.frozen 1
  simp at e0 e1 e2 e3
  have K := (k2.set_ 0 (.int .i64 (mergeL f a b).d)).set_ 1 (.slice A (mergeL f a b).ps.length c)
  have K' : Blk ((W.setCell ⟨w.heap.size + 1 + 1 + 1, 0, none⟩ (.int .i64 (mergeL f a b).d)).setCell ⟨w.heap.size + 1 + 1 + 1, 1, none⟩ (.slice A (mergeL f a b).ps.length c)) (w.heap.size + 1 + 1 + 1) 39 #[.int .i64 (mergeL f a b).d, .slice A (mergeL f a b).ps.length c] := K
  have HK := Lib.hid K'
  have HO2 := Lib.hid (own_set (own_set HO.out k2 (by decide) (i := 0) (.int .i64 (mergeL f a b).d)) (k2.set_ 0 (.int .i64 (mergeL f a b).d)) (by decide) (i := 1) (.slice A (mergeL f a b).ps.length c))
  have HB2 := Lib.hid ((HB.out.setCell (p := ⟨w.heap.size + 1 + 1 + 1, 0, none⟩) (by show _ ≤ w.heap.size + 1 + 1 + 1; omega) (.int .i64 (mergeL f a b).d)).setCell (p := ⟨w.heap.size + 1 + 1 + 1, 1, none⟩) (by show _ ≤ w.heap.size + 1 + 1 + 1; omega) (.slice A (mergeL f a b).ps.length c))
  clear K K' k1 k2
  go_wp2
  refine bodyPost_ret (results_cell_row rfl _ _ (w.heap.size + 1 + 1 + 1) 39 #[.int .i64 (mergeL f a b).d, .slice A (mergeL f a b).ps.length c] (0, 0) _ (by rfl) HK.out Try.underlying39 rfl (by kernel_rfl)) rfl ?_
  exact ⟨_, rfl, ⟨A, c, rfl, own_pairs HO2.out, own_cap HO2.out⟩, HB2.out⟩
end Go.Proofs.Ytihddficgpjgpaa
namespace Go.Proofs.Ytihddficgpjgpaa
open Go.RowKit Go.ChangeShapes Go.WideShapes Go.Shelf
theorem turned1_any (x y f t : Int) (gf gt : Nat) (w : World) (hf : Blk w gf 3 #[.int .i64 f]) (ht : Blk w gt 3 #[.int .i64 t]) :
    Calls Try.prog 129 #[.int .i64 x, .int .i64 y, .pointer (some ⟨gf, 0, none⟩), .pointer (some ⟨gt, 0, none⟩)] w fun e w' => e = .returned (.int .i64 (turnF f t x)) ∧ w = w' := by
  have e0 := hf.cell 0
  have e1 := ht.cell 0
  simp at e0 e1
  clear hf ht
  by_cases h : x = f
  · have hb : (x == f) = true := by simpa using h
    have HF := Lib.hid (show turnF f t x = t by unfold turnF; rw [if_pos h])
    clear h
    go_enter Try.func129, Try.ntmps129
    go_wp2
    go_ret
    exact ⟨ret_int HF.out.symm, rfl⟩
  · have hb : (x == f) = false := by simpa using h
    have HF := Lib.hid (show turnF f t x = x by unfold turnF; rw [if_neg h])
    clear h
    go_enter Try.func129, Try.ntmps129
    go_wp2
    go_ret
    exact ⟨ret_int HF.out.symm, rfl⟩
theorem PairsAt.set {W : World} {B g i n c : Nat} {A A' : Option Addr} {l : List (Int × Int)} {d : Int} (h : PairsAt W B A l) (k : Blk W g 39 #[.int .i64 d, .slice A' n c]) (u : Value) : PairsAt (W.setCell ⟨g, i, none⟩ u) B A l := fun hl => by
  obtain ⟨b, off, e, hb, hc⟩ := h hl
  have hne : b ≠ g := by
    rintro rfl
    have h0 := (hc 0 hl).1
    rw [k.cell] at h0
    rcases off with _ | _ | off <;> simp at h0
  exact ⟨b, off, e, hb, fun j hj => ⟨(World.cell?_setCell_other _ _ _ _ (by intro e; injection e with e1 e2; exact hne e1.symm)).trans (hc j hj).1, (World.cell?_setCell_other _ _ _ _ (by intro e; injection e with e1 e2; exact hne e1.symm)).trans (hc j hj).2⟩⟩
/-- A label stored into the variable of the result. -/
structure Stored (w W : World) (g : Nat) (l : Lab) (A : Option Addr) (c : Nat) : Prop where
  blk : Blk ((W.setCell ⟨g, 0, none⟩ (.int .i64 l.d)).setCell ⟨g, 1, none⟩ (.slice A l.ps.length c)) g 39 #[.int .i64 l.d, .slice A l.ps.length c]
  lab : LabV ((W.setCell ⟨g, 0, none⟩ (.int .i64 l.d)).setCell ⟨g, 1, none⟩ (.slice A l.ps.length c)) ((W.setCell ⟨g, 0, none⟩ (.int .i64 l.d)).setCell ⟨g, 1, none⟩ (.slice A l.ps.length c)).heap.size (.agg #[.int .i64 l.d, .slice A l.ps.length c]) l
  bl : Below w.heap.size w ((W.setCell ⟨g, 0, none⟩ (.int .i64 l.d)).setCell ⟨g, 1, none⟩ (.slice A l.ps.length c))
theorem stored_of {w W : World} {g n c c' : Nat} {d : Int} {A A' : Option Addr} {l : Lab} (k : Blk W g 39 #[.int .i64 d, .slice A' n c']) (hp : PairsAt W W.heap.size A l.ps) (hc : l.ps.length ≤ c) (hb : Below w.heap.size w W) (hg : w.heap.size ≤ g) : Stored w W g l A c := by
  have k1 : Blk (W.setCell ⟨g, 0, none⟩ (.int .i64 l.d)) g 39 #[.int .i64 l.d, .slice A' n c'] := k.set_ 0 _
  refine ⟨k1.set_ 1 _, ⟨A, c, rfl, ?_, hc⟩, (hb.setCell (p := ⟨g, 0, none⟩) hg _).setCell (p := ⟨g, 1, none⟩) hg _⟩
  refine ((hp.set k _).set k1 _).more ?_
  simp [World.setCell]
theorem enters129 : ∀ args w, (callFunc 129 args).run Try.prog w = .ok (.enter 129 args) w := enters_of Try.func129 (by kernel_rfl) rfl
set_option maxRecDepth 100000 in
set_option maxHeartbeats 400000 in
theorem turned_any (va : Value) (a : Lab) (f t : Int) (w : World) (ha : LabV w w.heap.size va a) (hga : Good a) (hl : a.ps.length ≤ 50000) :
    Calls Try.prog 111 #[va, .int .i64 f, .int .i64 t] w fun e w' => ∃ v, e = .returned v ∧ LabV w' w'.heap.size v (turnL f t a) ∧ Below w.heap.size w w' := by
  obtain ⟨Aa, ca, rfl, pa, la⟩ := ha
  go_enter Try.func111, Try.ntmps111
  go_wp2_with fail
  have b0 := ((Below.refl w.heap.size w).alloc (Nat.le_refl _) (.cells #[.int .i64 a.d, .slice Aa a.ps.length ca] 39))
  have s0 : (w.alloc (.cells #[.int .i64 a.d, .slice Aa a.ps.length ca] 39)).heap.size = w.heap.size + 1 := by simp
  generalize w.alloc (.cells #[.int .i64 a.d, .slice Aa a.ps.length ca] 39) = w1 at *
  have k1 := Blk.new w1 3 #[.int .i64 f]
  have b1 := b0.alloc b0.size (.cells #[.int .i64 f] 3)
  have s1 : (w1.alloc (.cells #[.int .i64 f] 3)).heap.size = w.heap.size + 1 + 1 := by simp [s0]
  rw [s0] at k1
  generalize w1.alloc (.cells #[.int .i64 f] 3) = w2 at *
  have k2 := Blk.new w2 3 #[.int .i64 t]
  have b2 := b1.alloc b1.size (.cells #[.int .i64 t] 3)
  have s2 : (w2.alloc (.cells #[.int .i64 t] 3)).heap.size = w.heap.size + 1 + 1 + 1 := by simp [s1]
  have j1 := k1.alloc (.cells #[.int .i64 t] 3)
  rw [s1] at k2
  generalize w2.alloc (.cells #[.int .i64 t] 3) = w3 at *
  have k3 := Blk.new w3 39 #[.int .i64 0, .slice none 0 0]
  have b3 := b2.alloc b2.size (.cells #[.int .i64 0, .slice none 0 0] 39)
  have i1 := j1.alloc (.cells #[.int .i64 0, .slice none 0 0] 39)
  have i2 := k2.alloc (.cells #[.int .i64 0, .slice none 0 0] 39)
  rw [s2] at k3
  generalize w3.alloc (.cells #[.int .i64 0, .slice none 0 0] 39) = w4 at *
  clear j1 k1 k2 b0 b1 b2 s0 s1 s2
  have hf : ∀ x y W, Below w4.heap.size w4 W → Calls Try.prog 129 (#[.int .i64 x, .int .i64 y] ++ #[.pointer (some ⟨w.heap.size + 1, 0, none⟩), .pointer (some ⟨w.heap.size + 1 + 1, 0, none⟩)]) W fun e w' => e = .returned (.int .i64 (turnF f t x)) ∧ W = w' :=
    fun x y W hW => turned1_any x y f t _ _ W (i1.below hW i1.lt) (i2.below hW i2.lt)
  have HM := Lib.hid (merge_any 129 _ enters129 (fun x _ => turnF f t x) _ _ a a _ ⟨Aa, ca, rfl, (pa.below b3).more b3.size, la⟩ ⟨Aa, ca, rfl, (pa.below b3).more b3.size, la⟩ hga hga (by omega) hf)
  clear hf
  refine HM.out.mono ?_
  clear HM
  rintro e W ⟨v, rfl, ⟨A, c, rfl, p, hc⟩, hbW⟩
  have k := k3.below hbW k3.lt
  have hS := stored_of (l := turnL f t a) k p hc (b3.trans (hbW.mono b3.size)) (by omega)
  have HS := Lib.hid hS
  have e2 := k.cell 0
  have e3 := k.cell 1
  have f2 := k.frozen 0
  have f3 := k.frozen 1
  simp at e2 e3
  have hd : mergeL (fun x _ => turnF f t x) a a = turnL f t a := rfl
  rw [hd]
  clear hS k p pa la hc k3 hbW b3 i1 i2 hd
  go_wp2
  refine bodyPost_ret (results_cell_row rfl _ _ (w.heap.size + 1 + 1 + 1) 39 #[.int .i64 (turnL f t a).d, .slice A (turnL f t a).ps.length c] (0, 0) _ (by rfl) HS.out.blk Try.underlying39 rfl (by kernel_rfl)) rfl ?_
  exact ⟨_, rfl, HS.out.lab, HS.out.bl⟩
set_option maxRecDepth 100000 in
set_option maxHeartbeats 400000 in
theorem raise_any (va : Value) (a : Lab) (w : World) (ha : LabV w w.heap.size va a) (hga : Good a) (hl : a.ps.length ≤ 50000) :
    Calls Try.prog 74 #[va] w fun e w' => ∃ v, e = .returned v ∧ LabV w' w'.heap.size v (raiseL a) ∧ Below w.heap.size w w' := by
  obtain ⟨Aa, ca, rfl, pa, la⟩ := ha
  go_enter Try.func74, Try.ntmps74
  go_wp2_with fail
  have b0 := ((Below.refl w.heap.size w).alloc (Nat.le_refl _) (.cells #[.int .i64 a.d, .slice Aa a.ps.length ca] 39))
  have s0 : (w.alloc (.cells #[.int .i64 a.d, .slice Aa a.ps.length ca] 39)).heap.size = w.heap.size + 1 := by simp
  generalize w.alloc (.cells #[.int .i64 a.d, .slice Aa a.ps.length ca] 39) = w2 at *
  have k3 := Blk.new w2 39 #[.int .i64 0, .slice none 0 0]
  have b3 := b0.alloc b0.size (.cells #[.int .i64 0, .slice none 0 0] 39)
  rw [s0] at k3
  generalize w2.alloc (.cells #[.int .i64 0, .slice none 0 0] 39) = w3 at *
  refine (turned_any _ a _ _ _ ⟨Aa, ca, rfl, (pa.below b3).more b3.size, la⟩ hga hl).mono ?_
  rintro e W ⟨v, rfl, ⟨A, c, rfl, p, hc⟩, hbW⟩
  have k := k3.below hbW k3.lt
  have hS := stored_of (l := raiseL a) k p hc (b3.trans (hbW.mono b3.size)) (by omega)
  have HS := Lib.hid hS
  have e2 := k.cell 0
  have e3 := k.cell 1
  have f2 := k.frozen 0
  have f3 := k.frozen 1
  simp at e2 e3
  have hd : turnL 0 5 a = raiseL a := rfl
  rw [hd]
  clear hS k p pa la hc k3 hbW b3 b0 hd
  go_wp2
  refine bodyPost_ret (results_cell_row rfl _ _ (w.heap.size + 1) 39 #[.int .i64 (raiseL a).d, .slice A (raiseL a).ps.length c] (0, 0) _ (by rfl) HS.out.blk Try.underlying39 rfl (by kernel_rfl)) rfl ?_
  exact ⟨_, rfl, HS.out.lab, HS.out.bl⟩
set_option maxRecDepth 100000 in
set_option maxHeartbeats 400000 in
theorem rest_any (va : Value) (a : Lab) (w : World) (ha : LabV w w.heap.size va a) (hga : Good a) (hl : a.ps.length ≤ 50000) :
    Calls Try.prog 63 #[va] w fun e w' => ∃ v, e = .returned v ∧ LabV w' w'.heap.size v (restL a) ∧ Below w.heap.size w w' := by
  obtain ⟨Aa, ca, rfl, pa, la⟩ := ha
  go_enter Try.func63, Try.ntmps63
  go_wp2_with fail
  have b0 := ((Below.refl w.heap.size w).alloc (Nat.le_refl _) (.cells #[.int .i64 a.d, .slice Aa a.ps.length ca] 39))
  have s0 : (w.alloc (.cells #[.int .i64 a.d, .slice Aa a.ps.length ca] 39)).heap.size = w.heap.size + 1 := by simp
  generalize w.alloc (.cells #[.int .i64 a.d, .slice Aa a.ps.length ca] 39) = w2 at *
  have k3 := Blk.new w2 39 #[.int .i64 0, .slice none 0 0]
  have b3 := b0.alloc b0.size (.cells #[.int .i64 0, .slice none 0 0] 39)
  rw [s0] at k3
  generalize w2.alloc (.cells #[.int .i64 0, .slice none 0 0] 39) = w3 at *
  refine (turned_any _ a _ _ _ ⟨Aa, ca, rfl, (pa.below b3).more b3.size, la⟩ hga hl).mono ?_
  rintro e W ⟨v, rfl, ⟨A, c, rfl, p, hc⟩, hbW⟩
  have k := k3.below hbW k3.lt
  have hS := stored_of (l := restL a) k p hc (b3.trans (hbW.mono b3.size)) (by omega)
  have HS := Lib.hid hS
  have e2 := k.cell 0
  have e3 := k.cell 1
  have f2 := k.frozen 0
  have f3 := k.frozen 1
  simp at e2 e3
  have hd : turnL 0 2 a = restL a := rfl
  rw [hd]
  clear hS k p pa la hc k3 hbW b3 b0 hd
  go_wp2
  refine bodyPost_ret (results_cell_row rfl _ _ (w.heap.size + 1) 39 #[.int .i64 (restL a).d, .slice A (restL a).ps.length c] (0, 0) _ (by rfl) HS.out.blk Try.underlying39 rfl (by kernel_rfl)) rfl ?_
  exact ⟨_, rfl, HS.out.lab, HS.out.bl⟩
theorem of_any (d : Int) (w : World) : Calls Try.prog 60 #[.int .i64 d] w fun e w' => ∃ v, e = .returned v ∧ LabV w' w'.heap.size v ⟨d, []⟩ ∧ Below w.heap.size w w' := by
  have b1 := (Below.refl w.heap.size w)
  go_enter Try.func60, Try.ntmps60
  go_wp2
  have K := Blk.new w 39 #[.int .i64 d, .slice none 0 0]
  refine bodyPost_ret (results_cell_row rfl _ _ w.heap.size 39 #[.int .i64 d, .slice none 0 0] (0, 0) _ (by rfl) K Try.underlying39 rfl (by kernel_rfl)) rfl ?_
  exact ⟨_, rfl, ⟨none, 0, rfl, PairsAt.nil _ _ _, Nat.le_refl _⟩, b1.alloc (Nat.le_refl _) _⟩
theorem good_of (d : Int) : Good ⟨d, []⟩ := ⟨True.intro, by simp⟩
end Go.Proofs.Ytihddficgpjgpaa
namespace Go.Proofs.Ytihddficgpjgpaa
open Go.RowKit Go.ChangeShapes Go.WideShapes Go.Shelf
/-- The pairs of a seed's levels, from place i on. -/
def seedP (d : Int) : Nat → List Int → List (Int × Int)
  | _, [] => []
  | i, n :: t => (if i < 12 ∧ n % 5 ≠ d then [(3 * (i : Int) + 1, n % 5)] else []) ++ seedP d (i + 1) t
theorem seedP_snoc (d : Int) (x : Int) : ∀ (l : List Int) (i : Nat), seedP d i (l ++ [x]) = seedP d i l ++ (if i + l.length < 12 ∧ x % 5 ≠ d then [(3 * ((i + l.length : Nat) : Int) + 1, x % 5)] else [])
  | [], i => by simp [seedP]
  | n :: t, i => by
    rw [List.cons_append, seedP, seedP, seedP_snoc d x t (i + 1), List.append_assoc, List.length_cons, show i + 1 + t.length = i + (t.length + 1) by omega]
theorem seedP_rise (d : Int) : ∀ (l : List Int) (i : Nat), Rise (3 * (i : Int)) (seedP d i l)
  | [], _ => True.intro
  | n :: t, i => by
    have ih := seedP_rise d t (i + 1)
    unfold seedP
    split
    · exact ⟨by simp only; omega, ih.mono (by simp only; omega)⟩
    · exact ih.mono (by omega)
theorem seedP_mem (d : Int) : ∀ (l : List Int) (i : Nat), ∀ p ∈ seedP d i l, p.2 ≠ d ∧ 0 ≤ p.2 ∧ p.2 ≤ 4 ∧ 0 < p.1 ∧ p.1 ≤ 34
  | [], _, _, h => by simp [seedP] at h
  | n :: t, i, p, h => by
    unfold seedP at h
    rcases List.mem_append.1 h with h | h
    · split at h
      · simp at h; subst h; simp only; refine ⟨by rename_i hh; exact hh.2, ?_⟩; omega
      · cases h
    · exact seedP_mem d t (i + 1) p h
theorem seedP_none (d : Int) : ∀ (l : List Int) (i : Nat), 12 ≤ i → seedP d i l = []
  | [], _, _ => rfl
  | n :: t, i, h => by
    unfold seedP
    rw [if_neg (by omega), seedP_none d t (i + 1) (by omega)]; rfl
theorem seedP_length (d : Int) : ∀ (l : List Int) (i : Nat), i ≤ 12 → (seedP d i l).length ≤ 12 - i
  | [], _, _ => by simp [seedP]
  | n :: t, i, h => by
    unfold seedP
    by_cases hi : i < 12
    · have ih := seedP_length d t (i + 1) (by omega)
      rw [List.length_append]
      split
      · simp; omega
      · simp; omega
    · rw [if_neg (by omega), seedP_none d t (i + 1) (by omega)]; simp
def seedL (D : Int) (L : List Int) : Lab := ⟨D % 4 + 1, seedP (D % 4 + 1) 0 L⟩
/-- What a seed's label is good for. -/
structure Fine (l : Lab) : Prop where
  good : Good l
  d1 : 1 ≤ l.d
  d4 : l.d ≤ 4
  lv4 : Upto 4 l
  len : l.ps.length ≤ 12
  cat : ∀ p ∈ l.ps, p.1 ≤ 34
theorem seed_fine (D : Int) (L : List Int) : Fine (seedL D L) := by
  have h := seedP_mem (D % 4 + 1) L 0
  have hd : 1 ≤ D % 4 + 1 ∧ D % 4 + 1 ≤ 4 := by omega
  exact ⟨⟨seedP_rise _ L 0, fun p hp => (h p hp).1⟩, hd.1, hd.2, upto_of ⟨by show 0 ≤ D % 4 + 1; omega, hd.2⟩ (fun p hp => ⟨(h p hp).2.1, (h p hp).2.2.1⟩), seedP_length _ L 0 (by omega), fun p hp => (h p hp).2.2.2.2⟩
theorem mod5 (n : Int) : (n.tmod 5 + 5) % 5 = n % 5 := by
  rw [Int.tmod_eq_emod]
  split <;> omega
def SeedV (w : World) (B : Nat) (v : Value) (l : Lab) : Prop := ∃ (D : Int) (L : List Int) (A : Option Addr) (c : Nat), l = seedL D L ∧ v = .agg #[.int .i64 D, .slice A L.length c] ∧ IntsAt .i64 w B A L ∧ L.length ≤ 9223372036854775807
theorem SeedV.fine {w : World} {B : Nat} {v : Value} {l : Lab} (h : SeedV w B v l) : Fine l := by obtain ⟨D, L, _, _, rfl, _⟩ := h; exact seed_fine D L
def RSeed (w : World) (Al : Option Addr) (d : Int) (L : List Int) (v : Value) (wr : World) : Prop :=
  ∃ (k : Nat) (A : Option Addr) (c : Nat), k ≤ L.length ∧ v = .int .i64 k ∧ Blk wr (w.heap.size + 2) 39 #[.int .i64 d, .slice A (seedP d 0 (L.take k)).length c] ∧ wr.ownsRow w.heap.size 90 2 (.slice A (seedP d 0 (L.take k)).length c) (seedP d 0 (L.take k)).length (pcells (seedP d 0 (L.take k))) ∧
    Blk wr (w.heap.size + 1) 39 #[.int .i64 0, .slice none 0 0] ∧ IntsAt .i64 wr w.heap.size Al L ∧ Below w.heap.size w wr
set_option maxRecDepth 100000 in
set_option maxHeartbeats 1600000 in
theorem seed_any (v : Value) (l : Lab) (w : World) (h : SeedV w w.heap.size v l) :
    Calls Try.prog 36 #[v] w fun e w' => ∃ x, e = .returned x ∧ LabV w' w'.heap.size x l ∧ Below w.heap.size w w' := by
  obtain ⟨i0, hi0, hz0, hz1, hz2⟩ := info_parts Try.info90
  obtain ⟨D, L, Al, cl, rfl, rfl, hl, hlen⟩ := h
  have q3 := i64_and3 D
  have hd0 : 0 ≤ D % 4 := by omega
  have hd1 : D % 4 < 4 := by omega
  have b0 := (((Below.refl w.heap.size w).alloc (Nat.le_refl _) (.cells #[.int .i64 D, .slice Al L.length cl] 36)).alloc (by simp) (.cells #[.int .i64 0, .slice none 0 0] 39))
  have k2 := (Blk.new (w.alloc (.cells #[.int .i64 D, .slice Al L.length cl] 36)) 39 #[.int .i64 0, .slice none 0 0]).alloc (.cells #[.int .i64 (D % 4 + 1), .slice none 0 0] 39)
  have k3 := Blk.new ((w.alloc (.cells #[.int .i64 D, .slice Al L.length cl] 36)).alloc (.cells #[.int .i64 0, .slice none 0 0] 39)) 39 #[.int .i64 (D % 4 + 1), .slice none 0 0]
  have b1 := b0.alloc b0.size (.cells #[.int .i64 (D % 4 + 1), .slice none 0 0] 39)
  rw [World.size_alloc] at k2
  rw [World.size_alloc, World.size_alloc] at k3
  have r0 : RSeed w Al (D % 4 + 1) L (.int .i64 0) (((w.alloc (.cells #[.int .i64 D, .slice Al L.length cl] 36)).alloc (.cells #[.int .i64 0, .slice none 0 0] 39)).alloc (.cells #[.int .i64 (D % 4 + 1), .slice none 0 0] 39)) :=
    ⟨0, none, 0, Nat.zero_le _, rfl, k3, World.ownsRow_nil _ _ _ _, k2, hl.below b1, b1⟩
  obtain ⟨r, hr⟩ : ∃ r, r = seedL D L := ⟨_, rfl⟩
  rw [← hr]
  have HR : Hid (r = ⟨D % 4 + 1, seedP (D % 4 + 1) 0 L⟩) := hr
  clear hl b0 b1 k2 k3 hr
  go_enter Try.func36, Try.ntmps36
  go_wp2_with fail
  clear q3
  generalize ((w.alloc (.cells #[.int .i64 D, .slice Al L.length cl] 36)).alloc (.cells #[.int .i64 0, .slice none 0 0] 39)).alloc (.cells #[.int .i64 (D % 4 + 1), .slice none 0 0] 39) = w1 at *
  generalize D % 4 + 1 = d at *
  go_loopw [14] (fun v wr => RSeed w Al d L v wr) (fun v _ => L.length - (intOf v).toNat)
  case atStart => exact r0
  case round =>
    clear r0
    obtain ⟨k, A, c, hk, rfl, k3, ho, k2, hl, hb⟩ := hrel
    have hml : (seedP d 0 (L.take k)).length ≤ 12 := seedP_length d _ 0 (by omega)
    by_cases hlt : k < L.length
    · obtain ⟨bl, ol, rfl, hbl, hcl⟩ := hl (by omega)
      have c1 := hcl k hlt
      have hs := seedP_snoc d L[k] (L.take k) 0
      rw [← List.take_succ_eq_append_getElem hlt, List.length_take, Nat.min_eq_left (by omega), Nat.zero_add] at hs
      have hm := mod5 L[k]
      have hm0 : -5 < L[k].tmod 5 := Int.lt_tmod_of_pos _ (by omega)
      have hm1 : L[k].tmod 5 < 5 := Int.tmod_lt_of_pos _ (by omega)
      have e0 := k3.cell 0
      have e1 := k3.cell 1
      simp at e0 e1
      have HL := Lib.hid hl
      have K3 := Lib.hid k3
      have K2 := Lib.hid k2
      have HO := Lib.hid ho
      have HB := Lib.hid hb
      have hbs := hb.size
      clear hcl hl k3 k2 ho hb
      generalize L[k] = n at *
      generalize n % 5 = m at *
      by_cases hc : k < 12 ∧ m ≠ d
      · rw [if_pos hc] at hs
        obtain ⟨hk12, hmd⟩ := hc
        have HSN := Lib.hid hs
        have t1 : decide ((k : Int) < 12) = true := by simp; omega
        have t2 : (m != d) = true := bne_iff_ne.2 hmd
        have hw : IntKind.u32.wrap (3 * (k : Int) + 1) = 3 * (k : Int) + 1 := by rw [IntKind.wrap_u32]; omega
        have ho1 := HO.out.alloc (.cells #[.int .u32 (3 * (k : Int) + 1), .int .i64 m] 90)
        have hcn := Lib.hid (pair_new wr (3 * (k : Int) + 1) m)
        have h1c := Lib.hid (pair_one (3 * (k : Int) + 1) m)
        have q3 := K3.out.alloc (.cells #[.int .u32 (3 * (k : Int) + 1), .int .i64 m] 90)
        have Q3 := Lib.hid q3
        have ML := Lib.hid hml
        have HM := Lib.hid hm
        clear hs hmd q3 hml
        go_wp2_with (at_builtin; refine wpList_append_own_at _ rfl _ _ 37 rfl w.heap.size 90 i0 _ 2 16 Try.underlying37 hi0 hz0 hz1 hz2 rfl (by decide) (.slice A (seedP d 0 (L.take k)).length c) _ _ rfl ho1 ⟨wr.heap.size, 0, none⟩ 1 1 [.int .u32 (3 * (k : Int) + 1), .int .i64 m] rfl rfl hcn.out h1c.out (by unfold maxLen; have := ML.out; omega) (by have := ML.out; omega) (by simp; omega) ?_; intro v2 w2 o2 g2 _ _; obtain ⟨A2, c2, rfl⟩ := own_slice o2; have kk := Q3.out.grown g2 (own_ne ho1 Q3.out (by decide)); have z1 := kk.cell 1; have z2 := kk.frozen 1; simp at z1)
        have hln : (seedP d 0 (L.take (k + 1))).length = (seedP d 0 (L.take k)).length + 1 := by rw [HSN.out]; simp
        go_roundw
        case rel =>
          have G := only_trans (only_alloc (only_refl wr (Value.slice A (seedP d 0 (L.take k)).length c).ownBlock) (.cells #[.int .u32 (3 * (k : Int) + 1), .int .i64 m] 90)) g2
          have k22 := K2.out.grown G (own_ne HO.out K2.out (by decide))
          refine ⟨k + 1, A2, c2, by omega, by go_num, ?_, ?_, k22.far (by show w.heap.size + 1 ≠ w.heap.size + 2; omega) _, HL.out.keep (fun p hp => ?_), (HB.out.grown G hbs (fun x hx => (own_row_blk HO.out hx).1)).setCell (p := ⟨w.heap.size + 2, 1, none⟩) (by show _ ≤ w.heap.size + 2; omega) _⟩
          · rw [hln]; exact kk.set_ 1 _
          · rw [hln, HSN.out, pcells_snoc]; exact own_set o2 kk (by decide) _
          · refine (World.cell?_setCell_other _ _ _ _ (by intro e; subst e; have : w.heap.size + 2 < w.heap.size := hp; omega)).trans ?_
            exact World.cell?_of_block (G.block p.block (by omega) (fun e => by have := (own_row_blk HO.out e.symm).1; omega))
        case measure => simp [intOf]; omega
      · rw [if_neg hc, List.append_nil] at hs
        have HSN := Lib.hid hs
        have HM := Lib.hid hm
        clear hs
        by_cases hk12 : k < 12
        · have t1 : decide ((k : Int) < 12) = true := by simp; omega
          have hmd : m = d := by
            by_cases e : m = d
            · exact e
            · exact absurd ⟨hk12, e⟩ hc
          subst hmd
          have t2 : (m != m) = false := by simp
          clear hc hml
          go_wp2_with fail
          go_roundw
          case rel => exact ⟨k + 1, A, c, by omega, by go_num, by rw [HSN.out]; exact K3.out, by rw [HSN.out]; exact HO.out, K2.out, HL.out, HB.out⟩
          case measure => simp [intOf]; omega
        · have t1 : decide ((k : Int) < 12) = false := by simp; omega
          clear hc hml
          go_wp2_with fail
          go_roundw
          case rel => exact ⟨k + 1, A, c, by omega, by go_num, by rw [HSN.out]; exact K3.out, by rw [HSN.out]; exact HO.out, K2.out, HL.out, HB.out⟩
          case measure => simp [intOf]; omega
    · obtain rfl : k = L.length := by omega
      rw [List.take_length] at k3 ho
      have hr := HR.out
      have ed : r.d = d := by rw [hr]
      have ep : r.ps = seedP d 0 L := by rw [hr]
      rw [← ep] at k3 ho
      rw [← ed] at k3
      have hS := stored_of (w := w) (l := r) k2 (own_pairs ho) (own_cap ho) hb (by omega)
      have HS := Lib.hid hS
      have e0 := k3.cell 0
      have e1 := k3.cell 1
      have e2 := k2.cell 0
      have e3 := k2.cell 1
      have f2 := k2.frozen 0
      have f3 := k2.frozen 1
      simp at e0 e1 e2 e3
      clear hS k3 ho k2 hl hb ed ep hr HR hml
      go_wp2
      refine bodyPost_ret (results_cell_row rfl _ _ (w.heap.size + 1) 39 #[.int .i64 r.d, .slice A r.ps.length c] (0, 0) _ (by rfl) HS.out.blk Try.underlying39 rfl (by kernel_rfl)) rfl ?_
      exact ⟨_, rfl, HS.out.lab, HS.out.bl⟩
end Go.Proofs.Ytihddficgpjgpaa
