/- Words for labels in memory. -/
import Derived.Test.YtihddficgpjgpaaBytes
import Derived.Test.YtihddficgpjgpaaLmath
import Derived.Deep.Cut
import Derived.Deep.CutRange
import Derived.Shelf.GgClosure.Gives
import Derived.Deep.LoopGhost
namespace Go.Proofs.Ytihddficgpjgpaa
open Go.RowKit Go.ChangeShapes Go.WideShapes

/-- A row of pairs. -/
def PairsAt (w : World) (B : Nat) (A : Option Addr) (l : List (Int × Int)) : Prop :=
  0 < l.length → ∃ b off, A = some ⟨b, off, none⟩ ∧ b < B ∧ ∀ k (h : k < l.length), w.cell? ⟨b, off + k * 2, none⟩ = some (.int .u32 l[k].1) ∧ w.cell? ⟨b, off + k * 2 + 1, none⟩ = some (.int .i64 l[k].2)
section
variable {w w' : World} {B B' : Nat} {A : Option Addr} {l : List (Int × Int)}
theorem PairsAt.keep (h : PairsAt w B A l) (hk : ∀ p : Addr, p.block < B → w'.cell? p = w.cell? p) : PairsAt w' B A l := fun hl => by
  obtain ⟨b, off, e, hb, hc⟩ := h hl
  exact ⟨b, off, e, hb, fun k hk' => ⟨(hk ⟨b, off + k * 2, none⟩ hb).trans (hc k hk').1, (hk ⟨b, off + k * 2 + 1, none⟩ hb).trans (hc k hk').2⟩⟩
theorem PairsAt.below (h : PairsAt w B A l) (hb : Below B w w') : PairsAt w' B A l := h.keep fun _ hp => hb.cell hp
theorem PairsAt.more (h : PairsAt w B A l) (hB : B ≤ B') : PairsAt w B' A l := fun hl => by
  obtain ⟨b, off, e, hb, hc⟩ := h hl
  exact ⟨b, off, e, by omega, hc⟩
theorem PairsAt.nil (w : World) (B : Nat) (A : Option Addr) : PairsAt w B A [] := fun h => absurd h (by simp)
theorem PairsAt.alloc (h : PairsAt w B A l) (hB : B ≤ w.heap.size) (o : Obj) : PairsAt (w.alloc o) B A l := h.keep fun _ hp => World.cell?_alloc_lt _ _ _ (by omega)
end

/-- The value of a label: its pairs lie below block B. -/
def LabV (w : World) (B : Nat) (v : Value) (l : Lab) : Prop :=
  ∃ (A : Option Addr) (c : Nat), v = .agg #[.int .i64 l.d, .slice A l.ps.length c] ∧ PairsAt w B A l.ps ∧ l.ps.length ≤ c
section
variable {w w' : World} {B B' : Nat} {v : Value} {l : Lab}
theorem LabV.below (h : LabV w B v l) (hb : Below B' w w') (hB : B ≤ B') : LabV w' B v l := by
  obtain ⟨A, c, h1, h2, h3⟩ := h
  exact ⟨A, c, h1, h2.keep (fun p hp => hb.cell (by omega)), h3⟩
theorem LabV.more (h : LabV w B v l) (hB : B ≤ B') : LabV w B' v l := by
  obtain ⟨A, c, h1, h2, h3⟩ := h
  exact ⟨A, c, h1, h2.more hB, h3⟩
theorem LabV.keep (h : LabV w B v l) (hk : ∀ p : Addr, p.block < B → w'.cell? p = w.cell? p) : LabV w' B v l := by
  obtain ⟨A, c, h1, h2, h3⟩ := h
  exact ⟨A, c, h1, h2.keep hk, h3⟩
end

/-- A variable that holds a label. -/
def LabB (w : World) (g B : Nat) (l : Lab) : Prop := ∃ (A : Option Addr) (c : Nat), Blk w g 39 #[.int .i64 l.d, .slice A l.ps.length c] ∧ PairsAt w B A l.ps ∧ l.ps.length ≤ c
theorem LabB.below {w w' : World} {g B B' : Nat} {l : Lab} (h : LabB w g B l) (hb : Below B' w w') (hB : B ≤ B') (hg : g < B') : LabB w' g B l := by
  obtain ⟨A, c, h1, h2, h3⟩ := h
  exact ⟨A, c, h1.below hb hg, h2.keep (fun p hp => hb.cell (by omega)), h3⟩

theorem Blk.ne_ {w : World} {g g' : Nat} {t t' : TypeId} {cs cs' : Array Value} (h : Blk w g t cs) (h' : Blk w g' t' cs') (hne : t ≠ t') : g ≠ g' := by
  rintro rfl
  unfold Blk at h h'
  rw [h] at h'
  injection h' with h'
  injection h' with _ ht
  exact hne ht
theorem own_row_blk {w : World} {B m x size : Nat} {e : TypeId} {v : Value} {xs : List Value} (h : w.ownsRow B e size v m xs) (hx : v.ownBlock = some x) : B ≤ x ∧ ∃ cs, Blk w x e cs := by
  rcases h.2 with ⟨rfl, _⟩ | ⟨g', cap, cur, rfl, hB, hh, _⟩
  · cases hx
  · cases hx; exact ⟨hB, _, hh⟩
theorem own_ne {w : World} {B g n : Nat} {e t : TypeId} {v : Value} {xs : List Value} {size : Nat} {cs : Array Value} (h : w.ownsRow B e size v n xs) (hg : Blk w g t cs) (hne : e ≠ t) : some g ≠ v.ownBlock := by
  intro he
  obtain ⟨_, cs', hb⟩ := own_row_blk h he.symm
  exact hb.ne_ hg hne rfl
theorem own_mono {w : World} {B B' : Nat} {e : TypeId} {size n : Nat} {v : Value} {xs : List Value} (h : w.ownsRow B' e size v n xs) (hB : B ≤ B') : w.ownsRow B e size v n xs := by
  refine ⟨h.1, ?_⟩
  rcases h.2 with h1 | ⟨g', cap, cur, h0, h1, h2⟩
  · exact .inl h1
  · exact .inr ⟨g', cap, cur, h0, by omega, h2⟩

/-- The cells of a row of pairs. -/
def pcells (l : List (Int × Int)) : List Value := l.flatMap fun p => [.int .u32 p.1, .int .i64 p.2]
theorem pcells_snoc (l : List (Int × Int)) (c n : Int) : pcells (l ++ [(c, n)]) = pcells l ++ [.int .u32 c, .int .i64 n] := by simp [pcells]
theorem pcells_length (l : List (Int × Int)) : (pcells l).length = l.length * 2 := by
  induction l with
  | nil => rfl
  | cons p t ih => simp [pcells] at ih ⊢; omega
theorem pcells_at : ∀ (l : List (Int × Int)) (k : Nat) (h : k < l.length), (pcells l)[k * 2]? = some (.int .u32 l[k].1) ∧ (pcells l)[k * 2 + 1]? = some (.int .i64 l[k].2)
  | p :: t, 0, _ => by simp [pcells]
  | p :: t, k + 1, h => by
    obtain ⟨h1, h2⟩ := pcells_at t k (by simpa using h)
    have e : pcells (p :: t) = .int .u32 p.1 :: .int .i64 p.2 :: pcells t := by simp [pcells]
    rw [e, show (k + 1) * 2 = k * 2 + 1 + 1 by omega]
    simpa using ⟨h1, h2⟩
/-- A row of pairs of the call's own reads as one. -/
theorem own_pairs {w : World} {B c : Nat} {A : Option Addr} {l : List (Int × Int)} (h : w.ownsRow B 90 2 (.slice A l.length c) l.length (pcells l)) : PairsAt w w.heap.size A l := fun hl => by
  obtain ⟨g, cur, rfl, hb, hB, h1, h2, h3, h4⟩ := own_blk h hl
  refine ⟨g, 0, rfl, hB.lt, fun k hk => ?_⟩
  obtain ⟨e1, e2⟩ := pcells_at l k hk
  rw [← h4] at e1 e2
  rw [List.getElem?_take, if_pos (by omega)] at e1 e2
  refine ⟨(hB.cell _).trans ?_, (hB.cell _).trans ?_⟩
  · rw [Nat.zero_add, ← e1]; simp
  · rw [Nat.zero_add, ← e2]; simp
theorem pairs_reads {w : World} {B : Nat} {A : Option Addr} {l : List (Int × Int)} (h : PairsAt w B A l) : Reads w B 2 A l.length (pcells l) :=
  ⟨pcells_length l, fun hn => by
    obtain ⟨b, off, e, hb, hc⟩ := h hn
    refine ⟨_, e, hb, fun j u hu => ?_⟩
    obtain ⟨hj, _⟩ := List.getElem?_eq_some_iff.1 hu
    rw [pcells_length] at hj
    obtain ⟨e1, e2⟩ := pcells_at l (j / 2) (by omega)
    obtain ⟨c1, c2⟩ := hc (j / 2) (by omega)
    rw [add_none]
    rcases (show j = j / 2 * 2 ∨ j = j / 2 * 2 + 1 by omega) with ej | ej
    · rw [ej, e1] at hu; rw [ej, c1, hu]
    · rw [ej, e2] at hu; rw [ej, ← Nat.add_assoc, c2, hu]⟩
theorem pcells_one (l : List (Int × Int)) : ∀ u ∈ pcells l, u.oneCell' = true := by
  intro u hu
  simp only [pcells, List.mem_flatMap] at hu
  obtain ⟨p, _, hu⟩ := hu
  simp at hu
  rcases hu with rfl | rfl <;> rfl
theorem Try.info90 : (Try.prog.info? 90).map (fun i => (i.zero, i.size, i.bytes)) = some (some (.agg #[.int .u32 0, .int .i64 0]), 2, 16) := by kernel_rfl
theorem pair_new (w : World) (c n : Int) : ∀ j u, [Value.int .u32 c, .int .i64 n][j]? = some u → (w.alloc (.cells #[.int .u32 c, .int .i64 n] 90)).cell? ((⟨w.heap.size, 0, none⟩ : Addr).add j) = some u := fun j u hu => by
  rw [add_none, Nat.zero_add]
  refine ((Blk.new w 90 #[.int .u32 c, .int .i64 n]).cell j).trans ?_
  rw [← hu]; simp
theorem pair_one (c n : Int) : ∀ u ∈ [Value.int .u32 c, .int .i64 n], u.oneCell' = true := by intro u hu; simp at hu; rcases hu with rfl | rfl <;> rfl

end Go.Proofs.Ytihddficgpjgpaa
