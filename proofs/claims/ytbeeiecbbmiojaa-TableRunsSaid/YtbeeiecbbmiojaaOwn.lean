/- Words on rows of the call's own; what putting in and taking out leave of their cells. No program in sight. -/
import Derived.Test.YtbeeiecbbmiojaaCopyn
import Derived.Outline
import Derived.Deep.Cut
import Derived.Deep.CutRange
import Derived.Below
import Derived.Deep.LoopGhost
namespace Go.Proofs.Ytbeeiecbbmiojaa
open Go.RowKit Go.ChangeShapes Go.WideShapes

theorem own_slice {w : World} {B e size n : Nat} {v : Value} {xs : List Value} (h : w.ownsRow B e size v n xs) : ∃ A c, v = .slice A n c := by
  rcases h.2 with ⟨rfl, rfl⟩ | ⟨g, cap, cur, rfl, _⟩
  · exact ⟨none, 0, rfl⟩
  · exact ⟨_, _, rfl⟩

theorem own_base {w : World} {base : Nat} {e : TypeId} {size n b : Nat} {v : Value} {xs : List Value} (h : w.ownsRow base e size v n xs) (hb : v.ownBlock = some b) : base ≤ b := by
  rcases h.2 with ⟨rfl, _⟩ | ⟨g', cap, cur, rfl, hB, _⟩
  · simp [Value.ownBlock] at hb
  · simp [Value.ownBlock] at hb; omega

theorem own_cap {w : World} {B : Nat} {e : TypeId} {n size : Nat} {xs : List Value} {A : Option Addr} {c : Nat} (h : w.ownsRow B e size (.slice A n c) n xs) : n ≤ c := by
  rcases Nat.eq_zero_or_pos n with h0 | h0
  · omega
  · obtain ⟨_, _, _, _, _, h, _⟩ := own_blk h h0; exact h

theorem Blk.ne_ {w : World} {g g' : Nat} {t t' : TypeId} {cs cs' : Array Value} (h : Blk w g t cs) (h' : Blk w g' t' cs') (hne : t ≠ t') : g ≠ g' := by
  rintro rfl
  unfold Blk at h h'
  rw [h] at h'
  injection h' with h'
  injection h' with _ ht
  exact hne ht

theorem own_row_blk {w : World} {B m x size : Nat} {e : TypeId} {v : Value} {xs : List Value} (h : w.ownsRow B e size v m xs) (hx : v.ownBlock = some x) : B ≤ x ∧ ∃ cs, Blk w x e cs := by
  rcases h.2 with ⟨rfl, _⟩ | ⟨g', cap, cur, rfl, hB, hh, _⟩
  · cases hx
  · cases hx; exact ⟨hB, _, hh⟩

theorem own_ne {w : World} {B g n : Nat} {e t : TypeId} {v : Value} {xs : List Value} {size : Nat} {cs : Array Value} (h : w.ownsRow B e size v n xs) (hg : Blk w g t cs) (hne : e ≠ t) : some g ≠ v.ownBlock := by
  intro he
  obtain ⟨_, cs', hb⟩ := own_row_blk h he.symm
  exact hb.ne_ hg hne rfl

theorem own_mono {w : World} {B B' : Nat} {e : TypeId} {size n : Nat} {v : Value} {xs : List Value} (h : w.ownsRow B' e size v n xs) (hB : B ≤ B') : w.ownsRow B e size v n xs := by
  refine ⟨h.1, ?_⟩
  rcases h.2 with h1 | ⟨g', cap, cur, h0, h1, h2⟩
  · exact .inl h1
  · exact .inr ⟨g', cap, cur, h0, by omega, h2⟩

theorem own_below {w w' : World} {B n size : Nat} {e : TypeId} {v : Value} {xs : List Value} (h : w.ownsRow B e size v n xs) (hb : Below w.heap.size w w') : w'.ownsRow B e size v n xs := by
  refine ⟨h.1, ?_⟩
  rcases h.2 with h1 | ⟨g', cap, cur, h0, h1, h2, h3⟩
  · exact .inl h1
  · exact .inr ⟨g', cap, cur, h0, h1, Blk.below (g := g') h2 hb (Blk.lt (g := g') h2), h3⟩

theorem ins_over (L xs news : List Value) (o k N : Nat) (hL : L.take N = xs) (hlen : N + k ≤ L.length) (ho : o ≤ N) (hk : news.length = k) :
    ((L.take (o + k) ++ xs.drop o ++ L.drop (o + k + (xs.drop o).length)).take o ++ news ++ (L.take (o + k) ++ xs.drop o ++ L.drop (o + k + (xs.drop o).length)).drop (o + news.length)).take (N + k) = xs.take o ++ news ++ xs.drop o := by
  have hx : xs.length = N := by rw [← hL, List.length_take]; omega
  have h1 : (L.take (o + k) ++ xs.drop o ++ L.drop (o + k + (xs.drop o).length)).take o = xs.take o := by
    rw [List.append_assoc, List.take_append_of_le_length (by simp; omega), List.take_take, ← hL, List.take_take, Nat.min_eq_left (by omega), Nat.min_eq_left ho]
  have h2 : (L.take (o + k) ++ xs.drop o ++ L.drop (o + k + (xs.drop o).length)).drop (o + news.length) = xs.drop o ++ L.drop (o + k + (xs.drop o).length) := by
    rw [List.append_assoc, List.drop_append_of_le_length (by simp; omega), hk, List.drop_eq_nil_of_le (by simp; omega), List.nil_append]
  rw [h1, h2, ← List.append_assoc, List.take_left' (by simp; omega)]

theorem ins_over2 (L xs news : List Value) (o k N : Nat) (hx : xs.length = N) (hL : L.take o = xs.take o) (hlen : N + k ≤ L.length) (ho : o ≤ N) (hk : news.length = k) :
    ((L.take o ++ news ++ L.drop (o + news.length)).take (o + k) ++ xs.drop o ++ (L.take o ++ news ++ L.drop (o + news.length)).drop (o + k + (xs.drop o).length)).take (N + k) = xs.take o ++ news ++ xs.drop o := by
  have h1 : (L.take o ++ news ++ L.drop (o + news.length)).take (o + k) = L.take o ++ news := by
    rw [List.take_left' (by simp; omega)]
  rw [h1, hL, List.take_left' (by simp; omega)]

theorem grown_fresh {a w : World} {g : Nat} {row : Option Nat} (h : a.grownBy w (some g)) (hg : a.heap.size ≤ g) : a.grownBy w row :=
  ⟨h.os, h.tape, h.output, h.size, fun i hi _ => h.block i hi (by simp; omega)⟩

theorem zeroCells_size (zs : Array Value) (n : Nat) : (Builtin.zeroCells zs n).size = n * zs.size := by simp [Builtin.zeroCells]

theorem delete_cells (L : List Value) (o k N : Nat) (z : List Value) (hz : z.length = k) (ho : o + k ≤ N) (hN : N ≤ L.length) :
    (over (over L.toArray o ((L.take N).drop (o + k))) (N - k) z).toList.take (N - k) = (L.take N).take o ++ (L.take N).drop (o + k) := by
  have hl : ((L.take N).drop (o + k)).length = N - (o + k) := by simp; omega
  rw [over_list, over_list]
  rw [List.take_append_of_le_length (by simp; omega), List.take_append_of_le_length (by simp; omega)]
  rw [List.take_take, Nat.min_self]
  rw [List.take_append_of_le_length (by simp; omega), List.take_of_length_le (by simp; omega), List.take_take, Nat.min_eq_left (by omega)]
end Go.Proofs.Ytbeeiecbbmiojaa
