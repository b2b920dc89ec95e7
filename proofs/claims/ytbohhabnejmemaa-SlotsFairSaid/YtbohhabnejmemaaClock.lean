/- Contracts of package slots: Right, New, Tick, Next, Slot, Now, Turn. A clock is a block of eleven cells; a table is a row of pairs. -/
import Derived.Test.YtbohhabnejmemaaBase
import Derived.Deep.QuietTactic
import Derived.BigQuiet
import Derived.BigRegion
import Derived.Outline
import Derived.WalkLawsBesides
namespace Go.Proofs.Ytbohhabnejmemaa
open Go.RowKit

def SlotsAt (w : World) (B : Nat) (A : Option Addr) (l : List (Int × Int)) : Prop :=
  0 < l.length → ∃ b off, A = some ⟨b, off, none⟩ ∧ b < B ∧ ∀ k (h : k < l.length), w.cell? ⟨b, off + k * 2, none⟩ = some (.int .u64 l[k].1) ∧ w.cell? ⟨b, off + k * 2 + 1, none⟩ = some (.int .i64 l[k].2)

theorem SlotsAt.keep {w w' : World} {B : Nat} {A : Option Addr} {l : List (Int × Int)} (h : SlotsAt w B A l) (hk : ∀ p : Addr, p.block < B → w'.cell? p = w.cell? p) : SlotsAt w' B A l := fun hl => by
  obtain ⟨b, off, e, hb, hc⟩ := h hl
  exact ⟨b, off, e, hb, fun k hk' => ⟨(hk ⟨b, off + k * 2, none⟩ hb).trans (hc k hk').1, (hk ⟨b, off + k * 2 + 1, none⟩ hb).trans (hc k hk').2⟩⟩
theorem SlotsAt.below {w w' : World} {B : Nat} {A : Option Addr} {l : List (Int × Int)} (h : SlotsAt w B A l) (hb : Below B w w') : SlotsAt w' B A l := h.keep fun _ hp => hb.cell hp
theorem SlotsAt.more {w : World} {B B' : Nat} {A : Option Addr} {l : List (Int × Int)} (h : SlotsAt w B A l) (hB : B ≤ B') : SlotsAt w B' A l := fun hl => by
  obtain ⟨b, off, e, hb, hc⟩ := h hl
  exact ⟨b, off, e, by omega, hc⟩

def slotCells (l : List (Int × Int)) : List Value := l.flatMap fun p => [.int .u64 p.1, .int .i64 p.2]
theorem slotCells_len (l : List (Int × Int)) : (slotCells l).length = l.length * 2 := by
  induction l with
  | nil => rfl
  | cons p l ih => simp only [slotCells, List.flatMap_cons, List.length_append, List.length_cons, List.length_nil] at ih ⊢; omega
theorem slotCells_at (l : List (Int × Int)) (k : Nat) (h : k < l.length) : (slotCells l)[k * 2]? = some (.int .u64 l[k].1) ∧ (slotCells l)[k * 2 + 1]? = some (.int .i64 l[k].2) := by
  induction l generalizing k with
  | nil => simp at h
  | cons p l ih =>
    match k with
    | 0 => exact ⟨rfl, rfl⟩
    | k + 1 =>
      have := ih k (by simpa using h)
      simp only [show (k + 1) * 2 = k * 2 + 1 + 1 from by omega]
      exact this
theorem SlotsAt.of_blk {w : World} {g B : Nat} {cs : Array Value} (l : List (Int × Int)) (h : Blk w g 32 cs) (hcs : cs.toList.take (l.length * 2) = slotCells l) (hB : g < B) : SlotsAt w B (some ⟨g, 0, none⟩) l := fun _ => by
  refine ⟨g, 0, rfl, hB, fun k hk => ?_⟩
  obtain ⟨a, b⟩ := slotCells_at l k hk
  rw [← hcs] at a b
  rw [List.getElem?_take, if_pos (by omega)] at a b
  exact ⟨(h.cell _).trans (by rw [← a]; simp), (h.cell _).trans (by rw [← b]; simp)⟩

def slotOk (p : Int × Int) : Bool := decide (1 ≤ p.2 ∧ p.2 ≤ 16)
def slotsOk (l : List (Int × Int)) : Bool := l.all slotOk && decide (1 ≤ l.length ∧ l.length ≤ 8)

theorem slotsOk_false (l : List (Int × Int)) (k : Nat) (h : k < l.length) (hb : slotOk l[k] = false) : slotsOk l = false := by
  unfold slotsOk
  rw [Bool.and_eq_false_iff]; left
  rw [List.all_eq_false]
  exact ⟨l[k], List.getElem_mem h, by simp [hb]⟩

set_option maxHeartbeats 400000 in
theorem right_any (A : Option Addr) (c : Nat) (l : List (Int × Int)) (w : World) (h : SlotsAt w w.heap.size A l) (hm : l.length ≤ 9223372036854775807) :
    Calls Try.prog 18 #[.slice A l.length c] w fun e w' => e = .returned (.bool (slotsOk l)) ∧ Below w.heap.size w w' := by
  go_enter Try.func18, Try.ntmps18
  go_wp2
  go_loopw [7] (fun i wr => ∃ k : Nat, k ≤ l.length ∧ i = .int .i64 k ∧ (l.take k).all slotOk = true ∧ Below w.heap.size w wr) (fun i _ => l.length - (intOf i).toNat)
  case atStart => exact ⟨0, Nat.zero_le _, rfl, rfl, Below.refl _ _⟩
  case round =>
    obtain ⟨k, hk, rfl, hall, hb⟩ := hrel
    by_cases hlt : k < l.length
    · obtain ⟨b, off, rfl, hbB, hc⟩ := h (by omega)
      obtain ⟨h0, h1⟩ := hc k hlt
      have e0 := (hb.cell (p := ⟨b, off + k * 2, none⟩) hbB).trans h0
      have e1 := (hb.cell (p := ⟨b, off + k * 2 + 1, none⟩) hbB).trans h1
      have HA := Lib.hid hall
      clear hc h0 h1 hall
      have fin : slotOk l[k] = false → ∀ W, Below w.heap.size w W → (Ending.returned (.bool false) = Ending.returned (.bool (slotsOk l)) ∧ Below w.heap.size w W) := fun h W hW => by
        rw [slotsOk_false l k hlt h]; exact ⟨rfl, hW⟩
      by_cases h1 : l[k].2 < 1
      · have HF := fin (by simp [slotOk]; omega)
        clear fin
        go_wp2
        go_ret
        exact HF _ (hb.alloc hb.size _)
      · by_cases h16 : 16 < l[k].2
        · have HF := fin (by simp [slotOk]; omega)
          clear fin
          go_wp2
          go_ret
          exact HF _ (hb.alloc hb.size _)
        · clear fin
          go_wp2
          go_roundw
          case rel => exact ⟨k + 1, by omega, by go_num, by rw [all_take_succ _ _ _ hlt, HA.out]; simp [slotOk]; omega, hb.alloc hb.size _⟩
          case measure => simp [intOf]; omega
    · have hk' : k = l.length := by omega
      have hall' : l.all slotOk = true := by rw [← hall, hk', List.take_length]
      have HS : Hid (slotsOk l = decide (1 ≤ l.length ∧ l.length ≤ 8)) := by show slotsOk l = _; simp [slotsOk, hall']
      clear hall hall' hk'
      by_cases h1 : 1 ≤ l.length
      · by_cases h8 : l.length ≤ 8
        · go_wp2
          go_ret
          exact ⟨ret_bool (by rw [HS.out, Bool.eq_iff_iff]; simp; try omega), hb⟩
        · go_wp2
          go_ret
          exact ⟨ret_bool (by rw [HS.out, Bool.eq_iff_iff]; simp; try omega), hb⟩
      · go_wp2
        go_ret
        exact ⟨ret_bool (by rw [HS.out, Bool.eq_iff_iff]; simp; try omega), hb⟩

/-- A clock's cells. -/
def clk (slot left now : Int) (T : List Int) : Array Value := (Value.int .i64 slot :: .int .i64 left :: .int .u64 now :: T.map (Value.int .u64)).toArray

theorem clk0 (s l n : Int) (T : List Int) : (clk s l n T)[0]? = some (.int .i64 s) := rfl
theorem clk1 (s l n : Int) (T : List Int) : (clk s l n T)[1]? = some (.int .i64 l) := rfl
theorem clk2 (s l n : Int) (T : List Int) : (clk s l n T)[2]? = some (.int .u64 n) := rfl
theorem clk3 (s l n : Int) (T : List Int) (k : Nat) (h : k < T.length) : (clk s l n T)[3 + k]? = some (.int .u64 T[k]) := by
  simp [clk, show 3 + k = k + 1 + 1 + 1 from by omega, h]
theorem clk_set0 (s l n : Int) (T : List Int) (x : Int) : (clk s l n T).setIfInBounds 0 (.int .i64 x) = clk x l n T := by simp [clk]
theorem clk_set1 (s l n : Int) (T : List Int) (x : Int) : (clk s l n T).setIfInBounds 1 (.int .i64 x) = clk s x n T := by simp [clk]
theorem clk_set2 (s l n : Int) (T : List Int) (x : Int) : (clk s l n T).setIfInBounds 2 (.int .u64 x) = clk s l x T := by simp [clk]
theorem clk_set3 (s l n : Int) (T : List Int) (k : Nat) (x : Int) : (clk s l n T).setIfInBounds (3 + k) (.int .u64 x) = clk s l n (T.set k x) := by
  simp [clk, show 3 + k = k + 1 + 1 + 1 from by omega, List.map_set]

section
variable {w : World} {g : Nat} {s l n : Int} {T : List Int}
theorem Blk.clk0 (h : Blk w g 29 (clk s l n T)) (x : Int) : Blk (w.setCell ⟨g, 0, none⟩ (.int .i64 x)) g 29 (clk x l n T) := by have k := h.set_ 0 (.int .i64 x); rwa [clk_set0] at k
theorem Blk.clk1 (h : Blk w g 29 (clk s l n T)) (x : Int) : Blk (w.setCell ⟨g, 1, none⟩ (.int .i64 x)) g 29 (clk s x n T) := by have k := h.set_ 1 (.int .i64 x); rwa [clk_set1] at k
theorem Blk.clk2 (h : Blk w g 29 (clk s l n T)) (x : Int) : Blk (w.setCell ⟨g, 2, none⟩ (.int .u64 x)) g 29 (clk s l x T) := by have k := h.set_ 2 (.int .u64 x); rwa [clk_set2] at k
theorem Blk.clk3 (h : Blk w g 29 (clk s l n T)) (k : Nat) (x : Int) : Blk (w.setCell ⟨g, 3 + k, none⟩ (.int .u64 x)) g 29 (clk s l n (T.set k x)) := by have q := h.set_ (3 + k) (.int .u64 x); rwa [clk_set3] at q
theorem only_set {a w : World} {g : Nat} (h : a.grownBy w (some g)) (i : Nat) (u : Value) : a.grownBy (w.setCell ⟨g, i, none⟩ u) (some g) := only_setCell h (.inl rfl) u
end

theorem slot_any (g : Nat) (s l n : Int) (T : List Int) (w : World) (h : Blk w g 29 (clk s l n T)) :
    Calls Try.prog 15 #[.pointer (some ⟨g, 0, none⟩)] w fun e w' => e = .returned (.int .i64 s) ∧ w = w' := by
  have e0 := (h.cell 0).trans (clk0 s l n T)
  go_enter Try.func15, Try.ntmps15
  go_wp2
  go_ret
  exact ⟨rfl, rfl⟩

theorem now_any (g : Nat) (s l n : Int) (T : List Int) (w : World) (h : Blk w g 29 (clk s l n T)) :
    Calls Try.prog 16 #[.pointer (some ⟨g, 0, none⟩)] w fun e w' => e = .returned (.int .u64 n) ∧ w = w' := by
  have e2 := (h.cell 2).trans (clk2 s l n T)
  go_enter Try.func16, Try.ntmps16
  go_wp2
  go_ret
  exact ⟨rfl, rfl⟩

theorem turn_none (g : Nat) (n : Int) (hn : n < 1) (w : World) :
    Calls Try.prog 17 #[.pointer (some ⟨g, 0, none⟩), .int .i64 n] w fun e w' => e = .returned (.int .i64 (-1)) ∧ w = w' := by
  go_enter Try.func17, Try.ntmps17
  go_wp2
  go_ret
  exact ⟨rfl, rfl⟩

theorem turn_some (g : Nat) (s : Nat) (l n : Int) (T : List Int) (m t : Int) (w : World) (h : Blk w g 29 (clk s l n T)) (ht : T[s]? = some t) (h8 : s < 8) (hm : 1 ≤ m) (hm' : m ≤ 100) (h0 : 0 ≤ t) (h1 : t ≤ 1000000) :
    Calls Try.prog 17 #[.pointer (some ⟨g, 0, none⟩), .int .i64 m] w fun e w' => e = .returned (.int .i64 (t % m)) ∧ ∃ n, w' = w.drewN n := by
  have e0 := (h.cell 0).trans (clk0 s l n T)
  have e3 : w.cell? ⟨g, 3 + s, none⟩ = some (.int .u64 t) := by
    obtain ⟨hs, e⟩ := List.getElem?_eq_some_iff.1 ht
    rw [← e]
    exact (h.cell (3 + s)).trans (clk3 s l n T s hs)
  have q0 := Int.emod_nonneg t (show m ≠ 0 by omega)
  have q1 := Int.emod_lt_of_pos t (show 0 < m by omega)
  clear ht
  go_enter Try.func17, Try.ntmps17
  go_wp2
  go_quiet (fail)
  go_wp2
  go_ret
  exact ⟨rfl, _, rfl⟩

theorem new_any (A : Option Addr) (c : Nat) (l : List (Int × Int)) (w : World) (h : SlotsAt w w.heap.size A l) (hl : 0 < l.length) :
    Calls Try.prog 12 #[.slice A l.length c] w fun e w' => e = .returned (.agg #[.int .i64 0, .int .i64 l[0].2, .int .u64 0, .int .u64 0, .int .u64 0, .int .u64 0, .int .u64 0, .int .u64 0, .int .u64 0, .int .u64 0, .int .u64 0]) ∧ Below w.heap.size w w' := by
  obtain ⟨b, off, rfl, hbB, hc⟩ := h hl
  have e1 := (hc 0 hl).2
  simp at e1
  clear hc
  go_enter Try.func12, Try.ntmps12
  go_wp2
  exact bodyPost_ret (v := .agg #[.int .i64 0, .int .i64 l[0].2, .int .u64 0, .int .u64 0, .int .u64 0, .int .u64 0, .int .u64 0, .int .u64 0, .int .u64 0, .int .u64 0, .int .u64 0]) (by simp [results, Try.results12, go_sem]) rfl ⟨rfl, (Below.refl _ _).alloc (Nat.le_refl _) _⟩

theorem next_any (g : Nat) (s : Nat) (l n : Int) (T : List Int) (t : Int) (w : World) (h : Blk w g 29 (clk s l n T)) (ht : T[s]? = some t) (h8 : s < 8) (h0 : 0 ≤ t) (h1 : t ≤ 1000000) :
    Calls Try.prog 14 #[.pointer (some ⟨g, 0, none⟩)] w fun e w' => e = .returned (.tuple #[]) ∧ Blk w' g 29 (clk s l n (T.set s (t + 1))) ∧ w.grownBy w' (some g) := by
  have e0 := (h.cell 0).trans (clk0 s l n T)
  have e3 : w.cell? ⟨g, 3 + s, none⟩ = some (.int .u64 t) := by
    obtain ⟨hs, e⟩ := List.getElem?_eq_some_iff.1 ht
    rw [← e]
    exact (h.cell (3 + s)).trans (clk3 s l n T s hs)
  clear ht
  have f3 := h.frozen (3 + s)
  go_enter Try.func14, Try.ntmps14
  go_wp2
  go_region
  all_goals go_wp2
  all_goals go_end0
  all_goals exact ⟨rfl, (h.clk3 s _).drew, only_drew (only_set (only_refl _ _) _ _)⟩

theorem tick_on (g : Nat) (A : Option Addr) (c : Nat) (sl : List (Int × Int)) (s : Nat) (l n : Int) (T : List Int) (w : World) (h : Blk w g 29 (clk s l n T))
    (hl : 1 < l) (hl' : l ≤ 1000) (hn : 0 ≤ n) (hn' : n ≤ 1000000) :
    Calls Try.prog 13 #[.pointer (some ⟨g, 0, none⟩), .slice A sl.length c] w fun e w' => e = .returned (.bool false) ∧ Blk w' g 29 (clk s (l - 1) (n + 1) T) ∧ w.grownBy w' (some g) := by
  have e1 := (h.cell 1).trans (clk1 s l n T)
  have e2 := (h.cell 2).trans (clk2 s l n T)
  have f1 := h.frozen 1
  have f2 := h.frozen 2
  go_enter Try.func13, Try.ntmps13
  go_wp2
  go_ret
  exact ⟨rfl, (h.clk2 _).clk1 _, only_set (only_set (only_refl _ _) _ _) _ _⟩

theorem tick_next (g : Nat) (A : Option Addr) (c : Nat) (sl : List (Int × Int)) (s k : Nat) (n : Int) (T : List Int) (w : World) (h : Blk w g 29 (clk s 1 n T)) (hs : SlotsAt w g A sl)
    (hsl : s < sl.length) (h8 : sl.length ≤ 8) (hn : 0 ≤ n) (hn' : n ≤ 1000000) (hk : k < sl.length) (hmod : (s + 1) % sl.length = k) :
    Calls Try.prog 13 #[.pointer (some ⟨g, 0, none⟩), .slice A sl.length c] w fun e w' => e = .returned (.bool true) ∧ Blk w' g 29 (clk k sl[k].2 (n + 1) T) ∧ w.grownBy w' (some g) := by
  have e0 := (h.cell 0).trans (clk0 s 1 n T)
  have e1 := (h.cell 1).trans (clk1 s 1 n T)
  have e2 := (h.cell 2).trans (clk2 s 1 n T)
  have f0 := h.frozen 0
  have f1 := h.frozen 1
  have f2 := h.frozen 2
  obtain ⟨b, off, rfl, hbB, hc⟩ := hs (by omega)
  have e3 := (hc _ hk).2
  have hbg : ¬ b = g := by omega
  have hm : ((s : Int) + 1) % (sl.length : Int) = (k : Int) := by rw [← hmod]; simp
  clear hc hs hmod
  go_enter Try.func13, Try.ntmps13
  go_wp2
  go_ret
  exact ⟨rfl, (((h.clk2 _).clk1 _).clk0 _).clk1 _, only_set (only_set (only_set (only_set (only_refl _ _) _ _) _ _) _ _) _ _⟩

end Go.Proofs.Ytbohhabnejmemaa
