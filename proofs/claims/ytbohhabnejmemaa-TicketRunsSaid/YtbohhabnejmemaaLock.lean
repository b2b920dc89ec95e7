/- Contracts of package ticket, and of the functions of slices that it calls: a lock is a block of two cells, its queue a row of its own. -/
import Derived.Test.YtbohhabnejmemaaRow
import Derived.Test.YtbohhabnejmemaaBits
import Derived.Outline
import Derived.BigQuiet
import Derived.BigRegion
import Derived.WalkSpells
import Derived.WalkLawsBesides
import Derived.Deep.LoopGhost
namespace Go.Proofs.Ytbohhabnejmemaa
open Go.RowKit

/-- Where a number stands first in a list; -1: nowhere. -/
def idx (l : List Int) (v : Int) : Int := if v ∈ l then (l.idxOf v : Int) else -1

theorem idxOf_hit (v : Int) : ∀ (l : List Int) (k : Nat) (h : k < l.length), l[k] = v → v ∉ l.take k → l.idxOf v = k
  | [], k, h, _, _ => by simp at h
  | a :: l, 0, _, he, _ => by simp at he; simp [he]
  | a :: l, k + 1, h, he, hn => by
    simp only [List.take_succ_cons, List.mem_cons, not_or] at hn
    have ih := idxOf_hit v l k (by simpa using h) (by simpa using he) hn.2
    have ha : (a == v) = false := by simp; exact fun e => hn.1 e.symm
    simp [List.idxOf_cons, ha, ih]

theorem idx_hit (l : List Int) (v : Int) (k : Nat) (h : k < l.length) (he : l[k] = v) (hn : v ∉ l.take k) : idx l v = k := by
  unfold idx
  rw [if_pos (by rw [← he]; exact List.getElem_mem h), idxOf_hit v l k h he hn]

theorem take_succ_mem {v : Int} {l : List Int} {k : Nat} (h : k < l.length) (hn : v ∉ l.take k) (he : l[k] ≠ v) : v ∉ l.take (k + 1) := by
  rw [List.take_succ_eq_append_getElem h, List.mem_append]
  simp [hn, Ne.symm he]

set_option maxHeartbeats 400000 in
theorem index_any (A : Option Addr) (c : Nat) (l : List Int) (v : Int) (B : Nat) (w : World) (h : IntsAt .u64 w B A l) (hm : l.length ≤ 9223372036854775807) :
    Calls Try.prog 27 #[.slice A l.length c, .int .u64 v] w fun e w' => e = .returned (.int .i64 (idx l v)) ∧ w = w' := by
  go_enter Try.func27, Try.ntmps27
  go_wp2
  go_loop [8] (fun i => ∃ k : Nat, k ≤ l.length ∧ i = .int .i64 k ∧ v ∉ l.take k) (fun i => l.length - (intOf i).toNat)
  case atStart => exact ⟨0, Nat.zero_le _, rfl, by simp⟩
  case round =>
    obtain ⟨k, hk, rfl, hn⟩ := hrel
    by_cases hlt : k < l.length
    · obtain ⟨b, off, rfl, hbB, hc⟩ := h (by omega)
      have e0 := hc k hlt
      clear hc
      by_cases he : l[k] = v
      · have HI := Lib.hid (idx_hit l v k hlt he hn)
        have hb : (v == l[k]) = true := by simp [he]
        clear he hn
        go_wp2
        go_ret
        exact ⟨ret_int HI.out.symm, rfl⟩
      · have HN := Lib.hid (take_succ_mem hlt hn he)
        have hb : (v == l[k]) = false := by simp [Ne.symm he]
        clear he hn
        go_wp2
        go_round
        case rel => exact ⟨k + 1, by omega, by go_num, HN.out⟩
        case measure => simp [intOf]; omega
    · obtain rfl : k = l.length := by omega
      have HI : Hid (idx l v = -1) := by show idx l v = -1; rw [List.take_length] at hn; simp [idx, hn]
      clear hn
      go_wp2
      go_ret
      exact ⟨ret_int HI.out.symm, rfl⟩

theorem idx_nonneg (l : List Int) (v : Int) : (0 ≤ idx l v ↔ v ∈ l) := by
  unfold idx; split <;> simp_all
theorem idx_bd (l : List Int) (v : Int) : -1 ≤ idx l v ∧ idx l v < l.length + 0 ∨ l = [] := by
  by_cases h : l = []
  · exact .inr h
  · left
    have := List.length_pos_iff.2 h
    unfold idx
    split
    · rename_i hm
      have := List.idxOf_lt_length_of_mem hm
      omega
    · omega

theorem contains_any (A : Option Addr) (c : Nat) (l : List Int) (v : Int) (B : Nat) (w : World) (h : IntsAt .u64 w B A l) (hm : l.length ≤ 9223372036854775807) :
    Calls Try.prog 26 #[.slice A l.length c, .int .u64 v] w fun e w' => e = .returned (.bool (decide (v ∈ l))) ∧ w = w' := by
  go_enter Try.func26, Try.ntmps26
  go_wp2_with (go_at_call 27; refine (index_any A c l v B _ h hm).mono ?_; rintro e w' ⟨rfl, rfl⟩)
  go_ret
  exact ⟨ret_bool (by rw [decide_eq_decide]; exact idx_nonneg l v), rfl⟩

theorem Try.info26 : (Try.prog.info? 26).map (fun i => (i.zero, i.size, i.bytes)) = some (some (.int .u64 0), 1, 8) := by kernel_rfl
theorem zero26 (w : World) : (zeroValue 26).run Try.prog w = .ok (.int .u64 0) w := by kernel_rfl
theorem zeros26 (n : Nat) : (Builtin.zeroCells (Value.int .u64 0).cells n).toList = List.replicate n (.int .u64 0) := by
  simp [Builtin.zeroCells, Value.cells]
  apply List.ext_getElem
  · simp
  · intro i h1 h2
    simp [Nat.mod_one]

/-- What deleting the element at i leaves of the first n cells. -/
theorem delete_cells (L : List Value) (i n c : Nat) (hi : i < n) (hn : n ≤ c) (hc : L.length = c) (z : Value) :
    (over (over L.toArray i ((L.take n).drop (i + 1))) (n - 1) [z]).toList.take (n - 1) = (L.take n).eraseIdx i := by
  have hl : ((L.take n).drop (i + 1)).length = n - (i + 1) := by simp; omega
  rw [over_list, over_list]
  rw [List.take_append_of_le_length (by simp; omega), List.take_append_of_le_length (by simp; omega)]
  rw [List.take_take, Nat.min_self]
  rw [List.take_append_of_le_length (by simp; omega), List.take_of_length_le (by simp; omega), List.eraseIdx_eq_take_drop_succ, List.take_take, Nat.min_eq_left (by omega)]

set_option maxRecDepth 100000 in
set_option maxHeartbeats 1600000 in
theorem delete_any (g c i n : Nat) (L : List Value) (w : World) (h : Blk w g 26 L.toArray) (hc : L.length = c) (hi : i < n) (hn : n ≤ c) (h1 : ∀ u ∈ L.take n, u.oneCell' = true) :
    Calls Try.prog 28 #[.slice (some ⟨g, 0, none⟩) n c, .int .i64 i, .int .i64 ((i : Int) + 1)] w fun e w' => e = .returned (.slice (some ⟨g, 0, none⟩) (n - 1) c) ∧
      Blk w' g 26 (over (over L.toArray i ((L.take n).drop (i + 1))) (n - 1) [.int .u64 0]) ∧ w.grownBy w' (some g) := by
  obtain ⟨i0, hi0, hz0, hz1, hz2⟩ := info_parts Try.info26
  obtain ⟨news, hnews⟩ : ∃ news, news = (L.take n).drop (i + 1) := ⟨_, rfl⟩
  have hlen : news.length = n - (i + 1) := by rw [hnews]; simp; omega
  rw [← hnews]
  obtain ⟨A, hA, hsrc⟩ : ∃ A : Addr, (if c = i + 1 then some (⟨g, 0, none⟩ : Addr) else some ⟨g, i + 1, none⟩) = some A ∧ Hid (∀ t u, news[t]? = some u → w.drew.cell? (A.add t) = some u) := by
    by_cases h' : c = i + 1
    · refine ⟨⟨g, 0, none⟩, by simp [h'], fun t u hu => ?_⟩
      have h0 : news.length = 0 := by rw [hlen]; omega
      rw [List.length_eq_zero_iff.1 h0] at hu
      simp at hu
    · refine ⟨⟨g, i + 1, none⟩, by simp [h'], fun t u hu => ?_⟩
      have ht : t < n - (i + 1) := by
        have := (List.getElem?_eq_some_iff.1 hu).1
        rwa [hlen] at this
      rw [add_none]
      refine ((Blk.drew h).cell _).trans ?_
      rw [hnews, List.getElem?_drop, List.getElem?_take, if_pos (by omega)] at hu
      rw [← hu]; simp
  have s1 : Hid (news.length = (n - (i + 1)) * 1) := by rw [Nat.mul_one]; exact hlen
  have s2 : Hid (∀ u ∈ news, u.oneCell' = true) := fun u hu => by
    rw [hnews] at hu
    exact h1 u (List.mem_of_mem_drop hu)
  have s3 : Hid (∀ t, t < news.length → (w.drew.cell? ⟨g, 0 + i * 1 + t, none⟩).isSome = true ∧ w.drew.frozen? ⟨g, 0 + i * 1 + t, none⟩ = false) := fun t ht => by
    rw [hlen] at ht
    refine ⟨?_, (Blk.drew h).frozen _⟩
    rw [(Blk.drew h).cell]
    simp; omega
  obtain ⟨W1, hW1⟩ : ∃ W1, W1 = w.drew.setCells g (0 + i * 1) news := ⟨_, rfl⟩
  have hB1 : Blk W1 g 26 (over L.toArray i news) := by
    rw [hW1, Nat.zero_add, Nat.mul_one]
    exact Blk.setCells news i (Blk.drew h) (by simp; omega)
  have hG1 : w.grownBy W1 (some g) := by rw [hW1]; exact only_setCells _ _ (only_drew (only_refl _ _))
  have hos : (over L.toArray i news).size = c := by rw [over_size _ _ _ (by simp; omega)]; simpa using hc
  have hcl : ∀ ty, (Builtin.clear_ #[43] ty #[.slice (some ⟨g, n - 1, none⟩) (n - (n - 1)) (c - (n - 1))]).run Try.prog W1 = .ok (.tuple #[]) (W1.setCells g (n - 1) [.int .u64 0]) := fun ty => by
    rw [show n - (n - 1) = 1 by omega]
    have := run_clear_rows (P := Try.prog) W1 43 26 ty _ Try.underlying43 zero26 g (n - 1) 1 (c - (n - 1)) (by rw [zeros26]; simp [Value.oneCell']) (by omega)
      (by rw [zeros26]; intro j hj; simp at hj; rw [hB1.cell]; simp; omega) (by rw [zeros26]; intro j _; exact hB1.frozen _)
    rwa [zeros26] at this
  have hB2 := Lib.hid (hB1.setCells [.int .u64 0] (n - 1) (by simp; omega))
  have hG2 := Lib.hid (only_setCells [.int .u64 0] (n - 1) hG1)
  have hW : Hid (W1 = w.drew.setCells g (0 + i * 1) news) := hW1
  have hic : i ≤ c := by omega
  have hjc : i + 1 ≤ c := by omega
  have he : ¬ ((i : Int) = (i : Int) + 1) := by omega
  have hnn : i + (n - (i + 1)) = n - 1 := by omega
  have hb1 : (0 : Int) ≤ (i : Int) + 1 ∧ (i : Int) + 1 ≤ (n : Int) := by omega
  clear hW1 hB1 hG1 hnews hlen h hos
  go_enter Try.func28, Try.ntmps28
  go_wp2_with fail
  go_region_law (refine step_append_room rfl (.tmp 22) (.tmp 25) 43 rfl 26 i0 1 Try.underlying43 hi0 hz1 g 0 i c (by simp [Act.eval, Act.put]) A (n - (i + 1)) (c - (i + 1)) news (by simp [Act.eval, Act.put]) s1.out hsrc.out s2.out (by omega) s3.out ?_; rw [← hW.out])
  go_wp2
  go_ret
  exact ⟨rfl, hB2.out, hG2.out⟩


def u64s (l : List Int) : List Value := l.map (Value.int .u64)

set_option maxHeartbeats 400000 in
theorem clone_any (A : Option Addr) (c : Nat) (l : List Int) (B : Nat) (w : World) (h : IntsAt .u64 w B A l) (hB : B ≤ w.heap.size) (hm : l.length ≤ 1000000) :
    Calls Try.prog 29 #[.slice A l.length c] w fun e w' => ∃ v, e = .returned v ∧ w'.ownsRow w.heap.size 26 1 v l.length (u64s l) ∧ Below w.heap.size w w' := by
  obtain ⟨i0, hi, hz0, hz1, hz2⟩ := info_parts Try.info26
  have qT : ∀ (w : World) (a : Option Addr) (n c n' c' : Nat), (binOp .eql 43 (.slice a n c) (.slice none n' c')).run Try.prog w = .ok (.bool a.isNone) w := fun w a n c n' c' => Lib.run_eql_slice_nil w _ _ a n c n' c' Try.underlying43
  cases A with
  | none =>
    have hl : l = [] := by
      rcases Nat.eq_zero_or_pos l.length with h0 | h0
      · exact List.eq_nil_of_length_eq_zero h0
      · obtain ⟨_, _, e, _⟩ := h h0
        cases e
    subst hl
    go_enter Try.func29, Try.ntmps29
    go_wp2
    go_ret
    exact ⟨_, rfl, World.ownsRow_nil _ _ _ _, Below.refl _ _⟩
  | some ad =>
    have hn : Hid (∀ j u, (u64s l)[j]? = some u → (w.alloc (.cells #[] 26)).cell? (ad.add j) = some u) := fun j u hu => by
      obtain ⟨hj, hu⟩ := List.getElem?_eq_some_iff.1 hu
      have hj' : j < l.length := by simpa [u64s] using hj
      obtain ⟨b, off, e, hb, hc⟩ := h (by omega)
      cases e
      rw [add_none]
      refine (World.cell?_alloc_lt _ _ _ (by show b < _; omega)).trans ?_
      rw [hc j hj', ← hu]; simp [u64s]
    have ho : (w.alloc (.cells #[] 26)).ownsRow w.heap.size 26 1 (.slice (some ⟨w.heap.size, 0, none⟩) 0 0) 0 [] :=
      ⟨rfl, .inr ⟨w.heap.size, 0, #[], rfl, Nat.le_refl _, Blk.new w 26 _, Nat.le_refl _, Nat.zero_le _, rfl, rfl⟩⟩
    clear h
    go_enter Try.func29, Try.ntmps29
    go_wp2_with (at_builtin; refine wpList_append_own _ rfl _ _ 43 rfl w.heap.size 26 i0 _ 1 8 Try.underlying43 hi hz0 hz1 hz2 rfl (by decide) _ 0 [] rfl ho ad l.length c (u64s l) rfl (by simp [u64s]) hn.out (by intro u hu; simp [u64s] at hu; obtain ⟨x, _, rfl⟩ := hu; rfl) (by unfold maxLen; omega) (by omega) (by simp) ?_; intro v1 w1 hown1 hg1 _)
    go_ret
    exact ⟨_, rfl, by simpa using hown1, ((Below.refl _ _).alloc (Nat.le_refl _) _).grown hg1 (by simp) (fun k hk => by injection hk with hk; exact Nat.le_of_eq hk)⟩

/-- A lock: its queue and its version. -/
def LockAt (w : World) (B g : Nat) (q : List Int) (ver : Int) (qb : Option Nat) : Prop :=
  ∃ (A : Option Addr) (c : Nat), Blk w g 45 #[.slice A q.length c, .int .u64 ver] ∧ w.ownsRow B 26 1 (.slice A q.length c) q.length (u64s q) ∧ A.map (·.block) = qb

/-- Nothing but the lock and its queue's row has turned. -/
structure LKept (w w' : World) (g : Nat) (qb : Option Nat) : Prop where
  os : w'.os = w.os
  tape : w'.tape = w.tape
  output : w'.output = w.output
  size : w.heap.size ≤ w'.heap.size
  block : ∀ k, k < w.heap.size → k ≠ g → some k ≠ qb → w'.heap[k]? = w.heap[k]?

theorem LKept.refl (w : World) (g : Nat) (qb : Option Nat) : LKept w w g qb := ⟨rfl, rfl, rfl, Nat.le_refl _, fun _ _ _ _ => rfl⟩
theorem LKept.below {w w' : World} {g B : Nat} {qb : Option Nat} (h : LKept w w' g qb) (hg : B ≤ g) (hq : ∀ k, qb = some k → B ≤ k) (hB : B ≤ w.heap.size) : Below B w w' :=
  ⟨h.os, h.tape, h.output, h.size, fun k hk => h.block k (by omega) (by omega) (fun e => by have := hq k e.symm; omega)⟩
theorem LKept.only {w w' w'' : World} {g : Nat} {qb row : Option Nat} (h : LKept w w' g qb) (k : w'.grownBy w'' row) (hr : row = qb ∨ row = some g ∨ ∀ b, row = some b → w.heap.size ≤ b) : LKept w w'' g qb :=
  ⟨k.os.trans h.os, k.tape.trans h.tape, k.output.trans h.output, Nat.le_trans h.size k.size, fun i hi h1 h2 => (k.block i (Nat.lt_of_lt_of_le hi h.size) (by
    rcases hr with rfl | rfl | hr
    · exact h2
    · intro e; injection e with e; exact h1 e
    · intro e; have := hr i e.symm; omega)).trans (h.block i hi h1 h2)⟩

theorem LockAt.ints {w : World} {B : Nat} {q : List Int} {A : Option Addr} {c : Nat} (h : w.ownsRow B 26 1 (.slice A q.length c) q.length (u64s q)) : IntsAt .u64 w w.heap.size A q := fun hq => by
  obtain ⟨g', cur, rfl, hb, hB, h1, h2, h3, h4⟩ := own_blk h hq
  refine ⟨g', 0, rfl, hB.lt, fun i hi => ?_⟩
  refine (hB.cell _).trans ?_
  have : (u64s q)[i]? = some (.int .u64 q[i]) := by simp [u64s, hi]
  rw [← h4, List.getElem?_take, if_pos (by omega)] at this
  rw [Nat.zero_add, ← this]; simp

theorem LockAt.new (w : World) (B : Nat) : LockAt (w.alloc (.cells #[.slice none 0 0, .int .u64 0] 45)) B w.heap.size [] 0 none :=
  ⟨none, 0, Blk.new w 45 _, World.ownsRow_nil _ _ _ _, rfl⟩

theorem version_any {B g : Nat} {q : List Int} {ver : Int} {qb : Option Nat} {w : World} (h : LockAt w B g q ver qb) :
    Calls Try.prog 22 #[.pointer (some ⟨g, 0, none⟩)] w fun e w' => e = .returned (.int .u64 ver) ∧ w = w' := by
  obtain ⟨A, c, hb, _⟩ := h
  have e1 := hb.cell 1
  simp at e1
  go_enter Try.func22, Try.ntmps22
  go_wp2
  go_ret
  exact ⟨rfl, rfl⟩

theorem busy_any {B g : Nat} {q : List Int} {ver : Int} {qb : Option Nat} {w : World} (h : LockAt w B g q ver qb) :
    Calls Try.prog 23 #[.pointer (some ⟨g, 0, none⟩)] w fun e w' => e = .returned (.bool (ver % 2 == 1)) ∧ w = w' := by
  obtain ⟨A, c, hb, _⟩ := h
  have e1 := hb.cell 1
  simp at e1
  have q1 := u64_and1 ver
  go_enter Try.func23, Try.ntmps23
  go_wp2
  go_ret
  exact ⟨rfl, rfl⟩

/-- Who holds a lock. -/
def holdsL (q : List Int) (id : Int) : Bool := match q with | [] => false | x :: _ => x == id

theorem holds_any {B g : Nat} {q : List Int} {ver : Int} {qb : Option Nat} {w : World} (h : LockAt w B g q ver qb) (id : Int) :
    Calls Try.prog 24 #[.pointer (some ⟨g, 0, none⟩), .int .u64 id] w fun e w' => e = .returned (.bool (holdsL q id)) ∧ w = w' := by
  obtain ⟨A, c, hb, ho, _⟩ := h
  have hi := LockAt.ints ho
  have e0 := hb.cell 0
  simp at e0
  clear hb ho
  cases q with
  | nil =>
    go_enter Try.func24, Try.ntmps24
    go_wp2
    go_ret
    exact ⟨rfl, rfl⟩
  | cons x q =>
    obtain ⟨b, off, rfl, hbB, hc⟩ := hi (by simp)
    have e1 := hc 0 (by simp)
    simp at e1
    clear hc hi
    have hl : (0 : Int) < ((x :: q).length : Int) := by simp
    generalize hn : (x :: q).length = n at *
    have HN := Lib.hid hn
    clear hn
    go_enter Try.func24, Try.ntmps24
    go_wp2
    go_ret
    exact ⟨rfl, rfl⟩

theorem queue_any {B g : Nat} {q : List Int} {ver : Int} {qb : Option Nat} {w : World} (h : LockAt w B g q ver qb) (hm : q.length ≤ 1000000) :
    Calls Try.prog 25 #[.pointer (some ⟨g, 0, none⟩)] w fun e w' => ∃ v, e = .returned v ∧ w'.ownsRow w.heap.size 26 1 v q.length (u64s q) ∧ Below w.heap.size w w' := by
  obtain ⟨A, c, hb, ho, _⟩ := h
  have hi := LockAt.ints ho
  have e0 := hb.cell 0
  simp at e0
  clear hb ho
  go_enter Try.func25, Try.ntmps25
  go_wp2_with (go_at_call 29; refine (clone_any A c q w.heap.size _ hi (Nat.le_refl _) hm).mono ?_; rintro e w1 ⟨v, rfl, ho1, hb1⟩)
  go_ret
  exact ⟨v, rfl, ho1, hb1⟩


theorem own_ne {w : World} {B g n : Nat} {e t : TypeId} {v : Value} {xs : List Value} {size : Nat} {cs : Array Value} (h : w.ownsRow B e size v n xs) (hg : Blk w g t cs) (hne : e ≠ t) : some g ≠ v.ownBlock := by
  rcases h.2 with ⟨rfl, _⟩ | ⟨g', cap, cur, rfl, _, hh, _⟩
  · simp [Value.ownBlock]
  · intro he
    have : g = g' := by simpa [Value.ownBlock] using he
    subst this
    unfold Blk at hg
    rw [hh] at hg
    injection hg with hg
    injection hg with _ ht
    exact hne ht

theorem Blk.lk0 {w : World} {g n c : Nat} {q : Value} {v : Int} (h : Blk w g 45 #[q, .int .u64 v]) (A : Option Addr) : Blk (w.setCell ⟨g, 0, none⟩ (.slice A n c)) g 45 #[.slice A n c, .int .u64 v] := h.set_ 0 _
theorem Blk.lk1 {w : World} {g : Nat} {q : Value} {v : Int} (h : Blk w g 45 #[q, .int .u64 v]) (v' : Int) : Blk (w.setCell ⟨g, 1, none⟩ (.int .u64 v')) g 45 #[q, .int .u64 v'] := h.set_ 1 _
theorem own_set {w : World} {B g n i : Nat} {e t : TypeId} {v : Value} {xs : List Value} {size : Nat} {cs : Array Value} (h : w.ownsRow B e size v n xs) (hg : Blk w g t cs) (hne : e ≠ t) (u : Value) : (w.setCell ⟨g, i, none⟩ u).ownsRow B e size v n xs :=
  h.kept (only_set' w g i u) (.inr (Ne.symm (own_ne h hg hne)))
where only_set' (w : World) (g i : Nat) (u : Value) : w.grownBy (w.setCell ⟨g, i, none⟩ u) (some g) := only_setCell (only_refl _ _) (.inl rfl) u

def joinL (q : List Int) (id : Int) : List Int := if id = 0 ∨ id ∈ q then q else q ++ [id]
def joinV (q : List Int) (id ver : Int) : Int := if id = 0 ∨ id ∈ q then ver else if q = [] then ver + 1 else ver

set_option maxRecDepth 100000 in
set_option maxHeartbeats 1600000 in
theorem join_any {B g : Nat} {q : List Int} {ver : Int} {qb : Option Nat} {w : World} (h : LockAt w B g q ver qb) (id : Int) (hv : 0 ≤ ver) (hv' : ver ≤ 1000000000) (hq : q.length ≤ 1000000) (hB : B ≤ w.heap.size) :
    Calls Try.prog 20 #[.pointer (some ⟨g, 0, none⟩), .int .u64 id] w fun e w' => e = .returned (.tuple #[]) ∧ ∃ qb', LockAt w' B g (joinL q id) (joinV q id ver) qb' ∧ LKept w w' g qb ∧ (qb' = qb ∨ ∃ k, qb' = some k ∧ w.heap.size ≤ k) := by
  have h0 := h
  obtain ⟨A, c, hb, ho, hqb⟩ := h
  have hi := LockAt.ints ho
  have e0 := hb.cell 0
  have e1 := hb.cell 1
  simp at e0 e1
  by_cases hid : id = 0
  · have hz : (id == 0) = true := by simp [hid]
    have HJ : Hid (joinL q id = q ∧ joinV q id ver = ver) := by constructor <;> simp [joinL, joinV, hid]
    clear hid
    go_enter Try.func20, Try.ntmps20
    go_wp2
    refine bodyPost_ret (results_none rfl _ _ _) rfl ?_
    exact ⟨rfl, qb, by rw [HJ.out.1, HJ.out.2]; exact h0, LKept.refl _ _ _, .inl rfl⟩
  have hz : (id == 0) = false := by simp [hid]
  by_cases hin : id ∈ q
  · have HJ : Hid (joinL q id = q ∧ joinV q id ver = ver) := by constructor <;> simp [joinL, joinV, hin]
    have HD : Hid (decide (id ∈ q) = true) := by show decide _ = true; simp [hin]
    clear hin hid
    go_enter Try.func20, Try.ntmps20
    go_wp2_with (go_at_call 26; refine (contains_any A c q id _ _ hi (by omega)).mono ?_; rintro e w' ⟨rfl, rfl⟩; rw [HD.out])
    refine bodyPost_ret (results_none rfl _ _ _) rfl ?_
    exact ⟨rfl, qb, by rw [HJ.out.1, HJ.out.2]; exact h0, LKept.refl _ _ _, .inl rfl⟩
  have HD : Hid (decide (id ∈ q) = false) := by show decide _ = false; simp [hin]
  obtain ⟨i0, hi0, hz0, hz1, hz2⟩ := info_parts Try.info26
  have hown : (w.alloc (.cells #[.int .u64 id] 26)).ownsRow B 26 1 (.slice A q.length c) q.length (u64s q) := ho.alloc _
  have hne := own_ne ho hb (by decide)
  have HN := Lib.hid hne
  have HJL : Hid (joinL q id = q ++ [id]) := by show joinL q id = _; simp [joinL, hid, hin]
  have hcn := Lib.hid (cell_one_new w (.int .u64 id) 26)
  have HQ : Hid ((Value.slice A q.length c).ownBlock = qb) := by show _ = qb; rw [← hqb]; cases A <;> rfl
  clear h0 hqb hne
  by_cases hnil : q = []
  · have HJV : Hid (joinV q id ver = ver + 1) := by show joinV q id ver = _; subst hnil; simp [joinV, hid]
    have hl0 : q.length = 0 := by rw [hnil]; rfl
    have hl1 : ((q.length : Int) + 1 == 1) = true := by simp [hl0]
    clear hin hid hnil hl0
    go_enter Try.func20, Try.ntmps20
    go_wp2_with (first
      | (go_at_call 26; refine (contains_any A c q id _ _ hi (by omega)).mono ?_; rintro e w' ⟨rfl, rfl⟩; rw [HD.out])
      | (at_builtin; refine wpList_append_own_at _ rfl _ _ 43 rfl B 26 i0 _ 1 8 Try.underlying43 hi0 hz0 hz1 hz2 rfl (by decide) (.slice A q.length c) _ _ rfl hown ⟨w.heap.size, 0, none⟩ 1 1 [.int .u64 id] rfl rfl hcn.out (by intro u hu; simp at hu; subst hu; rfl) (by unfold maxLen; omega) (by omega) (by simp; omega) ?_; intro v1 w1 hown1 hg1 _ hat1; obtain ⟨g1, c1, hv1⟩ := ownsRow_succ hown1; rw [hv1]; have k1 := (hb.alloc _).grown hg1 HN.out; have d0 := k1.cell 0; have d1 := k1.cell 1; have f0 := k1.frozen 0; have f1 := k1.frozen 1; simp at d0 d1))
    go_end0
    refine ⟨rfl, (Value.slice (some ⟨g1, 0, none⟩) (q.length + 1) c1).ownBlock, ⟨some ⟨g1, 0, none⟩, c1, ?_, ?_, rfl⟩, ?_, ?_⟩
    · rw [HJL.out, HJV.out]; simp only [List.length_append, List.length_cons, List.length_nil]; exact (k1.lk0 (some ⟨g1, 0, none⟩)).lk1 (ver + 1)
    · rw [HJL.out]; simp only [List.length_append, List.length_cons, List.length_nil, u64s, List.map_append, List.map_cons, List.map_nil]
      rw [hv1] at hown1
      exact own_set (own_set hown1 k1 (by decide) _) (k1.lk0 (some ⟨g1, 0, none⟩)) (by decide) _
    · have hk : LKept w w1 g qb := (LKept.refl w g qb).only ((World.grownBy_alloc w _ _).trans hg1) (.inl HQ.out)
      exact (hk.only (own_set.only_set' _ g 0 _) (.inr (.inl rfl))).only (own_set.only_set' _ g 1 _) (.inr (.inl rfl))
    · rw [hv1] at hat1
      rcases hat1 with e | e
      · left; rw [e]; exact HQ.out
      · right; exact ⟨_, e, by simp⟩
  · have HJV : Hid (joinV q id ver = ver) := by show joinV q id ver = _; simp [joinV, hnil]
    have hl0 : 1 ≤ q.length := List.length_pos_iff.2 hnil
    clear hin hid hnil
    go_enter Try.func20, Try.ntmps20
    go_wp2_with (first
      | (go_at_call 26; refine (contains_any A c q id _ _ hi (by omega)).mono ?_; rintro e w' ⟨rfl, rfl⟩; rw [HD.out])
      | (at_builtin; refine wpList_append_own_at _ rfl _ _ 43 rfl B 26 i0 _ 1 8 Try.underlying43 hi0 hz0 hz1 hz2 rfl (by decide) (.slice A q.length c) _ _ rfl hown ⟨w.heap.size, 0, none⟩ 1 1 [.int .u64 id] rfl rfl hcn.out (by intro u hu; simp at hu; subst hu; rfl) (by unfold maxLen; omega) (by omega) (by simp; omega) ?_; intro v1 w1 hown1 hg1 _ hat1; obtain ⟨g1, c1, hv1⟩ := ownsRow_succ hown1; rw [hv1]; have k1 := (hb.alloc _).grown hg1 HN.out; have d0 := k1.cell 0; have d1 := k1.cell 1; have f0 := k1.frozen 0; have f1 := k1.frozen 1; simp at d0 d1))
    go_end0
    refine ⟨rfl, (Value.slice (some ⟨g1, 0, none⟩) (q.length + 1) c1).ownBlock, ⟨some ⟨g1, 0, none⟩, c1, ?_, ?_, rfl⟩, ?_, ?_⟩
    · rw [HJL.out, HJV.out]; simp only [List.length_append, List.length_cons, List.length_nil]; exact k1.lk0 (some ⟨g1, 0, none⟩)
    · rw [HJL.out]; simp only [List.length_append, List.length_cons, List.length_nil, u64s, List.map_append, List.map_cons, List.map_nil]
      rw [hv1] at hown1
      exact own_set hown1 k1 (by decide) _
    · have hk : LKept w w1 g qb := (LKept.refl w g qb).only ((World.grownBy_alloc w _ _).trans hg1) (.inl HQ.out)
      exact hk.only (own_set.only_set' _ g 0 _) (.inr (.inl rfl))
    · rw [hv1] at hat1
      rcases hat1 with e | e
      · left; rw [e]; exact HQ.out
      · right; exact ⟨_, e, by simp⟩


def leaveL (q : List Int) (id : Int) : List Int := q.erase id
def leaveV (q : List Int) (id ver : Int) : Int := if id ∈ q then (if q.idxOf id = 0 then (if 1 < q.length then ver + 1 + 1 else ver + 1) else ver) else ver

theorem u64s_erase (q : List Int) (id : Int) (k : Nat) (hk : q.idxOf id = k) : (u64s q).eraseIdx k = u64s (leaveL q id) := by
  unfold leaveL
  rw [List.erase_eq_eraseIdx_of_idxOf hk, u64s, u64s, List.eraseIdx_eq_take_drop_succ, List.eraseIdx_eq_take_drop_succ, List.map_append, List.map_take, List.map_drop]

set_option maxRecDepth 100000 in
set_option maxHeartbeats 1600000 in
theorem leave_any {B g : Nat} {q : List Int} {ver : Int} {qb : Option Nat} {w : World} (h : LockAt w B g q ver qb) (id : Int) (hv : 0 ≤ ver) (hv' : ver ≤ 1000000000) (hq : q.length ≤ 1000000) :
    Calls Try.prog 21 #[.pointer (some ⟨g, 0, none⟩), .int .u64 id] w fun e w' => e = .returned (.tuple #[]) ∧ LockAt w' B g (leaveL q id) (leaveV q id ver) qb ∧ LKept w w' g qb := by
  have h0 := h
  obtain ⟨A, c, hb, ho, hqb⟩ := h
  have hi := LockAt.ints ho
  have e0 := hb.cell 0
  have e1 := hb.cell 1
  simp at e0 e1
  by_cases hin : id ∈ q
  · have hk := List.idxOf_lt_length_of_mem hin
    have hix : idx q id = (q.idxOf id : Int) := by unfold idx; rw [if_pos hin]
    have hvd : leaveV q id ver = (if q.idxOf id = 0 then (if 1 < q.length then ver + 1 + 1 else ver + 1) else ver) := by unfold leaveV; rw [if_pos hin]
    have hll : (leaveL q id).length = q.length - 1 := by unfold leaveL; rw [List.length_erase_of_mem hin]
    have hel := u64s_erase q id _ rfl
    obtain ⟨k, hkk⟩ : ∃ k, k = q.idxOf id := ⟨_, rfl⟩
    rw [← hkk] at hk hix hvd hel
    obtain ⟨g1, cur, rfl, hB1, hbk, hnc, hcm, hcs, hct⟩ := own_blk ho (by omega)
    have hd := delete_any g1 c k q.length cur.toList w hbk (by simpa using hcs) hk hnc (by rw [show q.length = q.length * 1 by omega, hct]; intro u hu; simp [u64s] at hu; obtain ⟨x, _, rfl⟩ := hu; rfl)
    have hdc := delete_cells cur.toList k q.length c hk hnc (by simpa using hcs) (.int .u64 0)
    have hct' : cur.toList.take q.length = u64s q := by simpa using hct
    rw [hct', hel] at hdc
    rw [hct'] at hd
    simp only [Array.toArray_toList] at hd hdc
    have hsz : (over (over cur k ((u64s q).drop (k + 1))) (q.length - 1) [.int .u64 0]).size = c := by
      have l1 : ((u64s q).drop (k + 1)).length = q.length - (k + 1) := by simp [u64s]
      rw [over_size _ _ _ (by rw [over_size _ _ _ (by rw [l1, hcs]; omega)]; simp; omega), over_size _ _ _ (by rw [l1, hcs]; omega)]
      omega
    have hne : g ≠ g1 := by
      have := own_ne ho hb (by decide)
      simpa [Value.ownBlock] using this
    have HIX := Lib.hid hix
    have HLL := Lib.hid hll
    have HDC := Lib.hid hdc
    have HSZ := Lib.hid hsz
    have HQB : Hid (qb = some g1) := by show qb = _; rw [← hqb]; rfl
    have HD := Lib.hid hd
    have fin : ∀ (w1 : World) (v : Int), Blk w1 g1 26 (over (over cur k ((u64s q).drop (k + 1))) (q.length - 1) [.int .u64 0]) → Blk w1 g 45 #[.slice (some ⟨g1, 0, none⟩) (q.length - 1) c, .int .u64 v] → LockAt w1 B g (leaveL q id) v qb := fun w1 v k1 k2 => by
      refine ⟨some ⟨g1, 0, none⟩, c, by rw [HLL.out]; exact k2, ?_, HQB.out.symm⟩
      rw [HLL.out]
      exact own_of_blk k1 hB1 (by omega) hcm (by rw [HSZ.out]; omega) (by rw [Nat.mul_one]; exact HDC.out)
    have FIN := Lib.hid fin
    clear hix hll hel hkk hcs hct hct' hdc hsz hd hqb ho hin fin h0 hbk
    by_cases hk0 : k = 0
    · subst hk0
      by_cases hq1 : 1 < q.length
      · have HV : Hid (leaveV q id ver = ver + 1 + 1) := by show _ = _; rw [hvd, if_pos rfl, if_pos hq1]
        clear hvd
        go_enter Try.func21, Try.ntmps21
        go_wp2_with (first
          | (go_at_call 27; refine (index_any _ c q id _ _ hi (by omega)).mono ?_; rintro e w' ⟨rfl, rfl⟩; rw [HIX.out])
          | (go_at_call 28; refine HD.out.mono ?_; rintro e w1 ⟨rfl, k1, g1'⟩; have k2 := hb.grown g1' (by simp; omega); have d0 := k2.cell 0; have d1 := k2.cell 1; have f0 := k2.frozen 0; have f1 := k2.frozen 1; simp at d0 d1))
        go_end0
        have hkp : LKept w w1 g qb := (LKept.refl w g qb).only g1' (.inl HQB.out.symm)
        rw [HV.out]
        exact ⟨rfl, FIN.out _ _ (((k1.far (p := ⟨g, 0, none⟩) (by simp; omega) _).far (p := ⟨g, 1, none⟩) (by simp; omega) _).far (p := ⟨g, 1, none⟩) (by simp; omega) _) (((k2.lk0 (some ⟨g1, 0, none⟩)).lk1 (ver + 1)).lk1 (ver + 1 + 1)), ((hkp.only (own_set.only_set' _ g 0 _) (.inr (.inl rfl))).only (own_set.only_set' _ g 1 _) (.inr (.inl rfl))).only (own_set.only_set' _ g 1 _) (.inr (.inl rfl))⟩
      · have HV : Hid (leaveV q id ver = ver + 1) := by show _ = _; rw [hvd, if_pos rfl, if_neg hq1]
        clear hvd
        go_enter Try.func21, Try.ntmps21
        go_wp2_with (first
          | (go_at_call 27; refine (index_any _ c q id _ _ hi (by omega)).mono ?_; rintro e w' ⟨rfl, rfl⟩; rw [HIX.out])
          | (go_at_call 28; refine HD.out.mono ?_; rintro e w1 ⟨rfl, k1, g1'⟩; have k2 := hb.grown g1' (by simp; omega); have d0 := k2.cell 0; have d1 := k2.cell 1; have f0 := k2.frozen 0; have f1 := k2.frozen 1; simp at d0 d1))
        go_end0
        have hkp : LKept w w1 g qb := (LKept.refl w g qb).only g1' (.inl HQB.out.symm)
        rw [HV.out]
        exact ⟨rfl, FIN.out _ _ ((k1.far (p := ⟨g, 0, none⟩) (by simp; omega) _).far (p := ⟨g, 1, none⟩) (by simp; omega) _) ((k2.lk0 (some ⟨g1, 0, none⟩)).lk1 (ver + 1)), (hkp.only (own_set.only_set' _ g 0 _) (.inr (.inl rfl))).only (own_set.only_set' _ g 1 _) (.inr (.inl rfl))⟩
    · have HV : Hid (leaveV q id ver = ver) := by show _ = _; rw [hvd, if_neg hk0]
      have hk1 : 0 < k := by omega
      clear hvd hk0
      go_enter Try.func21, Try.ntmps21
      go_wp2_with (first
        | (go_at_call 27; refine (index_any _ c q id _ _ hi (by omega)).mono ?_; rintro e w' ⟨rfl, rfl⟩; rw [HIX.out])
        | (go_at_call 28; refine HD.out.mono ?_; rintro e w1 ⟨rfl, k1, g1'⟩; have k2 := hb.grown g1' (by simp; omega); have d0 := k2.cell 0; have d1 := k2.cell 1; have f0 := k2.frozen 0; have f1 := k2.frozen 1; simp at d0 d1))
      refine bodyPost_ret (results_none rfl _ _ _) rfl ?_
      have hkp : LKept w w1 g qb := (LKept.refl w g qb).only g1' (.inl HQB.out.symm)
      rw [HV.out]
      exact ⟨rfl, FIN.out _ _ (k1.far (p := ⟨g, 0, none⟩) (by simp; omega) _) (k2.lk0 (some ⟨g1, 0, none⟩)), hkp.only (own_set.only_set' _ g 0 _) (.inr (.inl rfl))⟩
  · have HJ : Hid (leaveL q id = q ∧ leaveV q id ver = ver) := by
      constructor
      · exact List.erase_of_not_mem hin
      · simp [leaveV, hin]
    have HI : Hid (idx q id = -1) := by show _ = _; simp [idx, hin]
    clear hin
    go_enter Try.func21, Try.ntmps21
    go_wp2_with (go_at_call 27; refine (index_any A c q id _ _ hi (by omega)).mono ?_; rintro e w' ⟨rfl, rfl⟩; rw [HI.out])
    refine bodyPost_ret (results_none rfl _ _ _) rfl ?_
    exact ⟨rfl, by rw [HJ.out.1, HJ.out.2]; exact h0, LKept.refl _ _ _⟩

end Go.Proofs.Ytbohhabnejmemaa
