/- Rows of bytes: what two of them are against one another; a number put behind one. -/
import Derived.Test.YtihddficgpjgpaaReads
import Derived.Test.YtihddficgpjgpaaOpen
import Derived.Test.YtihddficgpjgpaaBits
import Derived.Laws.BytesString
import Derived.Laws.IdiomStrings
import Derived.Outline
import Derived.BigQuiet
import Derived.BigRegion
import Derived.WalkSpells
import Derived.WalkLawsBesides
import Derived.Deep.LoopGhost
import Derived.RangeFuncBox
namespace Go.Proofs.Ytihddficgpjgpaa
open Go.RowKit Go.ChangeShapes Go.WideShapes

theorem own_slice {w : World} {B e size n : Nat} {v : Value} {xs : List Value} (h : w.ownsRow B e size v n xs) : ∃ A c, v = .slice A n c := by
  rcases h.2 with ⟨rfl, rfl⟩ | ⟨g, cap, cur, rfl, _⟩
  · exact ⟨none, 0, rfl⟩
  · exact ⟨_, _, rfl⟩
theorem own_base {w : World} {base : Nat} {e : TypeId} {size n b : Nat} {v : Value} {xs : List Value} (h : w.ownsRow base e size v n xs) (hb : v.ownBlock = some b) : base ≤ b := by
  rcases h.2 with ⟨rfl, _⟩ | ⟨g', cap, cur, rfl, hB, _⟩
  · simp [Value.ownBlock] at hb
  · simp [Value.ownBlock] at hb; omega
theorem own_ints {k : IntKind} {w : World} {B : Nat} {e : TypeId} {q : List Int} {A : Option Addr} {c : Nat} (h : w.ownsRow B e 1 (.slice A q.length c) q.length (q.map (Value.int k))) : IntsAt k w w.heap.size A q := fun hq => by
  obtain ⟨g', cur, rfl, hb, hB, h1, h2, h3, h4⟩ := own_blk h hq
  refine ⟨g', 0, rfl, hB.lt, fun i hi => ?_⟩
  refine (hB.cell _).trans ?_
  have : (q.map (Value.int k))[i]? = some (.int k q[i]) := by simp [hi]
  rw [← h4, List.getElem?_take, if_pos (by omega)] at this
  rw [Nat.zero_add, ← this]; simp
theorem own_cap {w : World} {B : Nat} {e : TypeId} {n size : Nat} {xs : List Value} {A : Option Addr} {c : Nat} (h : w.ownsRow B e size (.slice A n c) n xs) : n ≤ c := by
  rcases Nat.eq_zero_or_pos n with h0 | h0
  · omega
  · obtain ⟨_, _, _, _, _, h, _⟩ := own_blk h h0; exact h

def Byt (l : List Int) : Prop := ∀ x ∈ l, 0 ≤ x ∧ x < 256
def u8s (l : List Int) : List Value := l.map (Value.int .u8)
/-- A byte. -/
def b8 (x : Int) : UInt8 := UInt8.ofNat x.toNat
theorem b8_inj {x y : Int} (hx : 0 ≤ x ∧ x < 256) (hy : 0 ≤ y ∧ y < 256) (h : b8 x = b8 y) : x = y := by
  have h2 := congrArg UInt8.toNat h
  simp [b8] at h2
  omega
theorem map_b8_inj : ∀ (a b : List Int), Byt a → Byt b → a.map b8 = b.map b8 → a = b
  | [], [], _, _, _ => rfl
  | [], _ :: _, _, _, h => by simp at h
  | _ :: _, [], _, _, h => by simp at h
  | x :: a, y :: b, ha, hb, h => by
    simp only [List.map_cons, List.cons.injEq] at h
    rw [b8_inj (ha x (by simp)) (hb y (by simp)) h.1, map_b8_inj a b (fun z hz => ha z (by simp [hz])) (fun z hz => hb z (by simp [hz])) h.2]

/-- The string of a row of bytes. -/
def strOf (l : List Int) : ByteArray := l.foldl (fun r n => r.push (UInt8.ofNat n.toNat)) ByteArray.empty
theorem foldl_push : ∀ (l : List Int) (r : ByteArray), l.foldl (fun r n => r.push (UInt8.ofNat n.toNat)) r = ⟨r.data ++ (l.map b8).toArray⟩
  | [], r => by simp
  | b :: l, r => by
    simp only [List.foldl_cons]
    rw [foldl_push l]
    simp [ByteArray.push, b8]
theorem strOf_data (l : List Int) : (strOf l).data.toList = l.map b8 := by
  unfold strOf
  rw [foldl_push]
  have he0 : ByteArray.empty.data = #[] := rfl
  rw [he0]
  simp
theorem byteArray_toList (b : ByteArray) : b.toList = b.data.toList := ByteArray.toList_eq b
theorem strOf_beq {a b : List Int} (ha : Byt a) (hb : Byt b) : ((strOf a).toList == (strOf b).toList) = decide (a = b) := by
  rw [byteArray_toList, byteArray_toList, strOf_data, strOf_data]
  by_cases h : a = b
  · subst h; simp
  · rw [decide_eq_false h]
    simp
    exact fun e => h (map_b8_inj a b ha hb e)

theorem run_str (w : World) {B : Nat} {A : Option Addr} {l : List Int} (h : IntsAt .u8 w B A l) (c : Nat) :
    (convert 22 9 (.slice A l.length c)).run Try.prog w = .ok (.string (strOf l)) w := by
  rw [run_convert_bytes_string w 22 9 5 A l.length c Try.underlying22 Try.underlying5 Try.underlying9]
  cases A with
  | none =>
    have hl : l = [] := by
      rcases Nat.eq_zero_or_pos l.length with h0 | h0
      · exact List.eq_nil_of_length_eq_zero h0
      · obtain ⟨_, _, e, _⟩ := h h0
        cases e
    subst hl
    rfl
  | some ad =>
    have hl := run_loadCells_list (P := Try.prog) w ad (l.map (Value.int .u8)) (fun j v hj => by
      obtain ⟨hj', hv⟩ := List.getElem?_eq_some_iff.1 hj
      simp at hj'
      obtain ⟨b, off, e, hb, hc⟩ := h (by omega)
      cases e
      rw [add_none, hc j hj', ← hv]; simp)
    simp only [List.length_map] at hl
    rw [run_bytesToString w ad l.length c l hl]
    rfl

theorem same_any (A A' : Option Addr) (c c' : Nat) (a b : List Int) (B B' : Nat) (w : World) (ha : IntsAt .u8 w B A a) (hb : IntsAt .u8 w B' A' b) (h1 : Byt a) (h2 : Byt b) :
    Calls Try.prog 30 #[.slice A a.length c, .slice A' b.length c'] w fun e w' => e = .returned (.bool (decide (a = b))) ∧ w = w' := by
  have q1 := run_str w ha c
  have q2 := run_str w hb c'
  have HE := Lib.hid (strOf_beq h1 h2)
  clear ha hb h1 h2
  go_enter Try.func30, Try.ntmps30
  go_wp2
  go_ret
  exact ⟨ret_bool HE.out, rfl⟩

end Go.Proofs.Ytihddficgpjgpaa
