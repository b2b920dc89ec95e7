/- The law TicketRuns: for every input the call returns true: call by call a lock is held by who came first of those who want it, and its version tells how often it was taken and left. No condition. -/
import Derived.Test.YtbohhabnejmemaaTicketServes
import Derived.Test.YtbohhabnejmemaaReads
namespace Go.Proofs.Ytbohhabnejmemaa
open Go.RowKit Go.ChangeShapes Go.WideShapes

/-- The lock, and the law's own list. -/
def LW (w : World) (g : Nat) (q : List Int) (ver : Int) (v : Value) (xs : List Int) (wr : World) : Prop :=
  ∃ qb, LockAt wr w.heap.size g q ver qb ∧ wr.ownsRow w.heap.size 26 1 v xs.length (u64s xs) ∧ (∀ x, v.ownBlock = some x → qb ≠ some x) ∧ w.heap.size ≤ g ∧ Below w.heap.size w wr

section
variable {w wr : World} {g : Nat} {q : List Int} {ver : Int} {v : Value} {xs : List Int}
theorem LW.bl (h : LW w g q ver v xs wr) : Below w.heap.size w wr := by obtain ⟨qb, h1, h3, h4, h5, h7⟩ := h; exact h7
theorem LW.below {w' : World} (h : LW w g q ver v xs wr) (hb : Below wr.heap.size wr w') : LW w g q ver v xs w' := by
  obtain ⟨qb, h1, h3, h4, h5, h7⟩ := h
  exact ⟨qb, h1.below hb, h3.kept (only_of_below hb none) (by cases v.ownBlock <;> simp), h4, h5, h7.trans (hb.mono h7.size)⟩

theorem lw_join (h : LW w g q ver v xs wr) (id : Int) (hv : 0 ≤ ver) (hv' : ver ≤ 1000000000) (hq : q.length ≤ 1000000) :
    Calls Try.prog 20 #[.pointer (some ⟨g, 0, none⟩), .int .u64 id] wr fun e w' => e = .returned (.tuple #[]) ∧ LW w g (joinL q id) (joinV q id ver) v xs w' := by
  obtain ⟨qb, h1, h3, h4, h5, h7⟩ := h
  refine (join_any h1 id hv hv' hq h7.size).mono ?_
  rintro e w' ⟨rfl, qb', l1, k1, hn⟩
  obtain ⟨cs, hb⟩ := h1.blk
  refine ⟨rfl, qb', l1, row_kept h3 k1 hb h4, fun x hx e => ?_, h5, h7.trans (k1.below h5 (fun x hx => (h1.row hx).1) h7.size)⟩
  rcases hn with rfl | ⟨y, rfl, hy⟩
  · exact h4 x hx e
  · cases e
    obtain ⟨_, cs', hb'⟩ := own_row_blk h3 hx
    have := hb'.lt
    omega

theorem lw_leave (h : LW w g q ver v xs wr) (id : Int) (hv : 0 ≤ ver) (hv' : ver ≤ 1000000000) (hq : q.length ≤ 1000000) :
    Calls Try.prog 21 #[.pointer (some ⟨g, 0, none⟩), .int .u64 id] wr fun e w' => e = .returned (.tuple #[]) ∧ LW w g (leaveL q id) (leaveV q id ver) v xs w' := by
  obtain ⟨qb, h1, h3, h4, h5, h7⟩ := h
  refine (leave_any h1 id hv hv' hq).mono ?_
  rintro e w' ⟨rfl, l1, k1⟩
  obtain ⟨cs, hb⟩ := h1.blk
  exact ⟨rfl, qb, l1, row_kept h3 k1 hb h4, h4, h5, h7.trans (k1.below h5 (fun x hx => (h1.row hx).1) h7.size)⟩

theorem lw_holds (h : LW w g q ver v xs wr) (id : Int) :
    Calls Try.prog 24 #[.pointer (some ⟨g, 0, none⟩), .int .u64 id] wr fun e w' => e = .returned (.bool (holdsL q id)) ∧ wr = w' := by
  obtain ⟨qb, h1, _⟩ := h
  exact holds_any h1 id
theorem lw_version (h : LW w g q ver v xs wr) :
    Calls Try.prog 22 #[.pointer (some ⟨g, 0, none⟩)] wr fun e w' => e = .returned (.int .u64 ver) ∧ wr = w' := by
  obtain ⟨qb, h1, _⟩ := h
  exact version_any h1
theorem lw_busy (h : LW w g q ver v xs wr) :
    Calls Try.prog 23 #[.pointer (some ⟨g, 0, none⟩)] wr fun e w' => e = .returned (.bool (ver % 2 == 1)) ∧ wr = w' := by
  obtain ⟨qb, h1, _⟩ := h
  exact busy_any h1
theorem lw_queue (h : LW w g q ver v xs wr) (hq : q.length ≤ 1000000) :
    Calls Try.prog 25 #[.pointer (some ⟨g, 0, none⟩)] wr fun e w' => ∃ v, e = .returned v ∧ w'.ownsRow wr.heap.size 26 1 v q.length (u64s q) ∧ Below wr.heap.size wr w' := by
  obtain ⟨qb, h1, _⟩ := h
  exact queue_any h1 hq
/-- The law's list has another row now: its own, one element more; or a new one. -/
theorem LW.want {w' : World} {v' : Value} {ys : List Int} {row : Option Nat} (h : LW w g q ver v xs wr) (ho : w'.ownsRow w.heap.size 26 1 v' ys.length (u64s ys)) (hg : wr.grownBy w' row) (hr : row = v.ownBlock ∨ row = none)
    (ha : v'.ownBlock = v.ownBlock ∨ ∃ y, v'.ownBlock = some y ∧ wr.heap.size ≤ y) : LW w g q ver v' ys w' := by
  obtain ⟨qb, h1, h3, h4, h5, h7⟩ := h
  have h1' := h1
  obtain ⟨A, c, hb, hr1, he⟩ := h1
  have hgr : some g ≠ row := by
    rcases hr with rfl | rfl
    · exact own_ne h3 hb (by decide)
    · simp
  refine ⟨qb, ⟨A, c, hb.grown hg hgr, hr1.kept hg ?_, he⟩, ho, fun y hy e => ?_, h5, h7.grown hg h7.size (fun k hk => ?_)⟩
  · cases A with
    | none => exact .inl rfl
    | some a =>
      refine .inr (fun e => ?_)
      rcases hr with rfl | rfl
      · exact h4 a.block e.symm he.symm
      · cases e
  · rcases ha with ha | ⟨z, ha, hz⟩
    · exact h4 y (by rw [← ha]; exact hy) e
    · rw [ha] at hy; cases hy
      obtain ⟨_, cs, hb'⟩ := h1'.row e
      have := hb'.lt
      omega
  · rcases hr with rfl | rfl
    · exact (own_row_blk h3 hk).1
    · cases hk
end

/-- Where id stands among the first j; -1: nowhere. -/
def at_ (q : List Int) (id : Int) (j : Nat) : Int := if id ∈ q.take j then (q.idxOf id : Int) else -1
theorem at_zero (q : List Int) (id : Int) : at_ q id 0 = -1 := by simp [at_]
theorem mem_take_succ (q : List Int) (x : Int) (j : Nat) (hj : j < q.length) : x ∈ q.take (j + 1) ↔ x ∈ q.take j ∨ x = q[j] := by
  rw [List.take_succ_eq_append_getElem hj, List.mem_append]; simp
theorem at_hit (q : List Int) (hn : q.Nodup) (j : Nat) (hj : j < q.length) (id : Int) (he : q[j] = id) : at_ q id (j + 1) = j := by
  unfold at_
  rw [if_pos ((mem_take_succ q id j hj).2 (.inr he.symm)), ← he, List.Nodup.idxOf_getElem hn]
theorem at_miss (q : List Int) (id : Int) (j : Nat) (hj : j < q.length) (h : q[j] ≠ id) : at_ q id (j + 1) = at_ q id j := by
  unfold at_
  have : id ∈ q.take (j + 1) ↔ id ∈ q.take j := by rw [mem_take_succ q id j hj]; simp [Ne.symm h]
  simp only [this]
theorem at_end (q : List Int) (id : Int) : at_ q id q.length = idx q id := by unfold at_ idx; rw [List.take_length]

theorem join_nodup (q : List Int) (id : Int) (h : q.Nodup) : (joinL q id).Nodup := by
  unfold joinL
  split
  · exact h
  · rename_i hn
    rw [List.nodup_append]
    refine ⟨h, by simp, fun a ha b hb e => ?_⟩
    simp at hb
    subst hb; subst e
    exact hn (.inr ha)
theorem leave_nodup (q : List Int) (id : Int) (h : q.Nodup) : (leaveL q id).Nodup := h.erase id
theorem odd_join (q : List Int) (id ver : Int) (h : Odd_ q ver) : Odd_ (joinL q id) (joinV q id ver) := by
  unfold Odd_ at *
  unfold joinL joinV
  by_cases hc : id = 0 ∨ id ∈ q
  · rw [if_pos hc, if_pos hc]; exact h
  · rw [if_neg hc, if_neg hc]
    have hne : q ++ [id] ≠ [] := by intro e; have := congrArg List.length e; simp at this
    rw [if_neg hne]
    by_cases hq : q = []
    · rw [if_pos hq] at h ⊢; omega
    · rw [if_neg hq] at h ⊢; exact h
theorem odd_busy (q : List Int) (ver : Int) (h : Odd_ q ver) : (ver % 2 == 1) = decide (0 < q.length) := by
  unfold Odd_ at h
  cases q with
  | nil => simp at h; simp [h]
  | cons x q => simp at h; simp [h]


def R1 (w : World) (g len : Nat) (vq vv vi : Value) (wr : World) : Prop :=
  ∃ (k : Nat) (q : List Int) (ver : Int), k ≤ len ∧ vi = .int .i64 k ∧ vv = .int .u64 ver ∧ 0 ≤ ver ∧ ver ≤ 2 * k ∧ q.length ≤ k ∧ q.Nodup ∧ Odd_ q ver ∧ LW w g q ver vq q wr
def R2 (q : List Int) (id : Int) (va vj : Value) : Prop := ∃ j : Nat, j ≤ q.length ∧ vj = .int .i64 j ∧ va = .int .i64 (at_ q id j)

theorem one_u64s (l : List Int) : ∀ u ∈ u64s l, u.oneCell' = true := by intro u hu; simp [u64s] at hu; obtain ⟨x, _, rfl⟩ := hu; rfl

theorem holds_first (Q : List Int) (id : Int) (h : 0 < Q.length) : holdsL Q id = (Q[0] == id) := by
  cases Q with
  | nil => simp at h
  | cons a q => rfl
theorem LW.want0 {w w' wr : World} {g : Nat} {q xs : List Int} {ver : Int} {v v' : Value} {ys : List Int} (h : LW w g q ver v xs wr) (ho : w'.ownsRow w.heap.size 26 1 v' ys.length (u64s ys)) (hg : wr.grownBy w' none)
    (ha : ∀ y, v'.ownBlock = some y → wr.heap.size ≤ y) : LW w g q ver v' ys w' := by
  obtain ⟨qb, h1, h3, h4, h5, h7⟩ := h
  have h1' := h1
  obtain ⟨A, c, hb, hr1, he⟩ := h1
  refine ⟨qb, ⟨A, c, hb.grown hg (by simp), hr1.kept hg (by cases A with | none => exact .inl rfl | some a => exact .inr (by simp [Value.ownBlock])), he⟩, ho, fun y hy e => ?_, h5, h7.grown hg h7.size (fun k hk => by cases hk)⟩
  have hz := ha y hy
  obtain ⟨_, cs, hb'⟩ := h1'.row e
  have := hb'.lt
  omega
theorem grown_none {a b c : World} {r : Option Nat} (h : a.grownBy b none) (k : b.grownBy c r) (hr : ∀ x, r = some x → a.heap.size ≤ x) : a.grownBy c none :=
  ⟨k.os.trans h.os, k.tape.trans h.tape, k.output.trans h.output, Nat.le_trans h.size k.size, fun i hi _ => (k.block i (Nat.lt_of_lt_of_le hi h.size) (fun e => by have := hr i e.symm; omega)).trans (h.block i hi (by simp))⟩
/-- The rest of a list behind its p-th element, as a slice reads it. -/
theorem reads_take {W : World} {B b o : Nat} {q : List Int} {p : Nat} (h : IntsAt .u64 W B (some ⟨b, o, none⟩) q) (hp : p ≤ q.length) : Reads W B 1 (some ⟨b, o, none⟩) p (u64s (q.take p)) := by
  refine ⟨by simp [u64s, hp], fun hn => ?_⟩
  obtain ⟨b', off, e, hb, hc⟩ := h (by omega)
  cases e
  refine ⟨_, rfl, hb, fun j u hu => ?_⟩
  rw [add_none]
  obtain ⟨hj, hu⟩ := List.getElem?_eq_some_iff.1 hu
  have hj' : j < p ∧ j < q.length := by simp [u64s] at hj; omega
  rw [hc j hj'.2, ← hu]; simp [u64s]
theorem reads_after {b4 o4 c4 : Nat} (q : List Int) (p : Nat) (hc : q.length ≤ c4) (hp : p < q.length) :
    ∃ A2 : Addr, (if c4 = p + 1 then some (⟨b4, o4, none⟩ : Addr) else some ⟨b4, o4 + (p + 1), none⟩) = some A2 ∧ Hid (∀ (W : World) B, IntsAt .u64 W B (some ⟨b4, o4, none⟩) q → Reads W B 1 (some A2) (q.length - (p + 1)) (u64s (q.drop (p + 1)))) := by
  by_cases h' : c4 = p + 1
  · refine ⟨_, by rw [if_pos h'], fun W B _ => ⟨by simp [u64s], fun hn => absurd hn (by omega)⟩⟩
  · refine ⟨_, by rw [if_neg h'], fun W B h => ⟨by simp [u64s], fun hn => ?_⟩⟩
    obtain ⟨b', off, e, hb, hc⟩ := h (by omega)
    cases e
    refine ⟨_, rfl, hb, fun j u hu => ?_⟩
    rw [add_none]
    obtain ⟨hj, hu⟩ := List.getElem?_eq_some_iff.1 hu
    have hj' : p + 1 + j < q.length := by simp [u64s] at hj; omega
    rw [show o4 + (p + 1) + j = o4 + (p + 1 + j) by omega, hc _ hj', ← hu]; simp [u64s]
theorem append_erase (q : List Int) (p : Nat) : [] ++ u64s (q.take p) ++ u64s (q.drop (p + 1)) = u64s (q.eraseIdx p) := by
  simp [u64s, List.eraseIdx_eq_take_drop_succ]
theorem ints_of_list {w wr : World} {g n c : Nat} {q xs : List Int} {ver : Int} {A : Option Addr} (h : LW w g q ver (.slice A n c) xs wr) : IntsAt .u64 wr wr.heap.size A xs := by
  obtain ⟨_, _, ho, _⟩ := h
  obtain ⟨A', c', e⟩ := own_slice ho
  injection e with e1 e2 e3
  subst e2
  exact LockAt.ints ho
/-- The copy of the queue while it is held against the list, and struck: from j on it still reads. -/
def R3 (W : World) (A : Option Addr) (Q : List Int) (vj : Value) (wr : World) : Prop :=
  ∃ j : Nat, j ≤ Q.length ∧ vj = .int .i64 j ∧ Below W.heap.size W wr ∧ (j < Q.length → ∃ b, A = some ⟨b, 0, none⟩ ∧ W.heap.size ≤ b ∧ ∀ i (h : i < Q.length), j ≤ i → wr.cell? ⟨b, i, none⟩ = some (.int .u64 Q[i]) ∧ wr.frozen? ⟨b, i, none⟩ = false)
theorem r3_start {W w9 : World} {A : Option Addr} {c : Nat} {Q : List Int} {n : Nat} (h : w9.ownsRow W.heap.size 26 1 (.slice A n c) Q.length (u64s Q)) (hb : Below W.heap.size W w9) : R3 W A Q (.int .i64 0) w9 := by
  refine ⟨0, Nat.zero_le _, rfl, hb, fun hq => ?_⟩
  rcases h.2 with ⟨h0, h1⟩ | ⟨g, cap, cur, hv, hB, hh, h1, h2, h3, h4⟩
  · omega
  · injection hv with e1 e2 e3
    refine ⟨g, e1, hB, fun i hi _ => ⟨?_, Blk.frozen hh i⟩⟩
    refine (Blk.cell hh i).trans ?_
    have : (u64s Q)[i]? = some (.int .u64 Q[i]) := by simp [u64s, hi]
    rw [← h4, List.getElem?_take, if_pos (by omega)] at this
    rw [← this]; simp
theorem r3_step {W wr : World} {Q : List Int} {b j nq : Nat} {vj : Value} (h : R3 W (some ⟨b, 0, none⟩) Q (.int .i64 j) wr) (hj : j < Q.length) (hv : vj = .int .i64 ((j + 1 : Nat) : Int)) (u : Value) :
    R3 W (some ⟨b, 0, none⟩) Q vj ((wr.drewN nq).setCell ⟨b, j, none⟩ u) := by
  obtain ⟨j', _, e, hb, hc⟩ := h
  injection e with _ e
  have e : j = j' := by omega
  subst e
  obtain ⟨b', hA, hB, hc⟩ := hc hj
  cases hA
  refine ⟨j + 1, hj, hv, (below_drewN hb nq).setCell (p := ⟨b, j, none⟩) hB u, fun _ => ⟨b, rfl, hB, fun i hi hji => ?_⟩⟩
  obtain ⟨h1, h2⟩ := hc i hi (by omega)
  refine ⟨(World.cell?_setCell_other _ _ _ _ (by intro e; injection e with _ e; omega)).trans h1, ?_⟩
  rw [World.frozen?_setCell]; exact h2

set_option maxRecDepth 100000 in
set_option maxHeartbeats 3200000 in
theorem ticketRuns_walk (A : Option Addr) (c : Nat) (l : List Int) (w : World) (h : IntsAt .i64 w w.heap.size A l) (hm : l.length ≤ 9223372036854775807) :
    Calls Try.prog 7 #[.slice A l.length c] w fun e w' => e = .returned (.bool true) ∧ Below w.heap.size w w' := by
  by_cases hbig : 300 < l.length
  · go_enter Try.func7, Try.ntmps7
    go_wp2_with (go_at_call 19; refine (fit11 _).mono ?_; rintro e w1 ⟨rfl, hb1⟩)
    go_ret
    exact ⟨rfl, hb1⟩
  obtain ⟨i0, hi0, hz0', hz1, hz2⟩ := info_parts Try.info26
  go_enter Try.func7, Try.ntmps7
  go_wp2_with (go_at_call 19; refine (fit11 _).mono ?_; rintro e w1 ⟨rfl, hb1⟩)
  have b2 := hb1.alloc hb1.size (.cells #[.slice none 0 0, .int .u64 0] 45)
  have ht : LW w w1.heap.size [] 0 (.slice none 0 0) [] (w1.alloc (.cells #[.slice none 0 0, .int .u64 0] 45)) :=
    ⟨none, LockAt.new w1 _, World.ownsRow_nil _ _ _ _, by simp, hb1.size, b2⟩
  generalize w1.alloc _ = w2 at *
  generalize w1.heap.size = ga at *
  clear hb1 b2
  go_loopw [4, 5, 21] (fun vq vv vi wr => R1 w ga l.length vq vv vi wr) (fun _ _ i _ => l.length - (intOf i).toNat)
  case atStart => exact ⟨0, [], 0, Nat.zero_le _, rfl, rfl, by omega, by omega, by simp, by simp, by simp [Odd_], ht⟩
  case round =>
    obtain ⟨k, q, ver, hk, rfl, rfl, hv0, hv1, hql, hnd, hO, hL⟩ := hrel
    clear ht
    by_cases hlt : k < l.length
    · obtain ⟨b, off, rfl, hbB, hc⟩ := h (by omega)
      have ea := (hL.bl.cell (p := ⟨b, off + k, none⟩) hbB).trans (hc k hlt)
      clear hc
      generalize l[k] = x at *
      have q1 := i64_and1 x
      have q7 := i64_and7 (x / 2)
      have x0 := Int.emod_nonneg x (show (2 : Int) ≠ 0 by omega)
      have x1 := Int.emod_lt_of_pos x (show (0 : Int) < 2 by omega)
      have m0 := Int.emod_nonneg (x / 2) (show (8 : Int) ≠ 0 by omega)
      have m1 := Int.emod_lt_of_pos (x / 2) (show (0 : Int) < 8 by omega)
      generalize hx2 : x % 2 = y at *
      generalize hx8 : x / 2 % 8 = id at *
      clear hx2 hx8
      have HND := Lib.hid hnd
      have HO := Lib.hid hO
      have hq0 : IntsAt .u64 wr wr.heap.size (match u4 with | .slice a _ _ => a | _ => none) q ∧ ∃ c4, u4 = .slice (match u4 with | .slice a _ _ => a | _ => none) q.length c4 := by
        obtain ⟨_, _, ho, _⟩ := hL
        obtain ⟨A4, c4, rfl⟩ := own_slice ho
        exact ⟨LockAt.ints ho, c4, rfl⟩
      obtain ⟨hq0, c4, hu4⟩ := hq0
      generalize (match u4 with | .slice a _ _ => a | _ => none) = A4 at *
      subst hu4
      clear hnd hO
      -- WHERE IT STANDS
      go_wp2
      go_loop [9, 31] (fun va vj => R2 q id va vj) (fun _ vj => q.length - (intOf vj).toNat)
      case atStart => exact ⟨0, Nat.zero_le _, rfl, by rw [at_zero]⟩
      case round =>
        obtain ⟨j, hj, rfl, rfl⟩ := hrel
        by_cases hjt : j < q.length
        · obtain ⟨b4, o4, rfl, _, hc4⟩ := hq0 (by omega)
          have e4 := hc4 j hjt
          clear hc4
          by_cases he : q[j] = id
          · have HA := Lib.hid (at_hit q HND.out j hjt id he)
            have hb : (q[j] == id) = true := by simp [he]
            clear he
            go_wp2
            go_round
            case rel => exact ⟨j + 1, by omega, by go_num, by rw [HA.out]⟩
            case measure => simp [intOf]; omega
          · have HA := Lib.hid (at_miss q id j hjt he)
            have hb : (q[j] == id) = false := by simp [he]
            clear he
            go_wp2
            go_round
            case rel => exact ⟨j + 1, by omega, by go_num, by rw [HA.out]⟩
            case measure => simp [intOf]; omega
        · obtain rfl : j = q.length := by omega
          simp only [at_end]
          by_cases hy : y = 0
          · subst hy
            by_cases hin : id ∈ q
            · obtain ⟨p, hp, hpi⟩ : ∃ p : Nat, p < q.length ∧ idx q id = p := ⟨_, List.idxOf_lt_length_of_mem hin, by unfold idx; rw [if_pos hin]⟩
              rw [hpi]
              clear hpi
              have HV : Hid (0 ≤ ver ∧ ver ≤ 2 * ((k + 1 : Nat) : Int)) := ⟨hv0, by omega⟩
              have HQK : Hid (q.length ≤ k + 1) := by show _ ≤ _; omega
              have HQB : Hid (q.length ≤ 1000000) := by show _ ≤ _; omega
              have HN' := HND
              have HO' := HO
              have HJ : Hid (joinL q id = q ∧ joinV q id ver = ver) := by constructor <;> simp [joinL, joinV, hin]
              have hqe : q ≠ [] := by rintro rfl; simp at hin

              have hql1 : 0 < q.length := List.length_pos_iff.2 hqe
              have HBUSY : Hid ((ver % 2 == 1) = true) := by show _ = _; rw [odd_busy q ver HO.out]; simp [hql1]
              have HHOLD : Hid (holdsL q id = (q[0]'hql1 == id)) := by show _ = _; cases q with | nil => simp at hql1 | cons a q => rfl
              obtain ⟨b4, o4, rfl, hb4, hc4⟩ := hq0 hql1
              clear hqe hc4
              clear hin
              go_wp2_with (first
                | (go_at_call 20; refine (lw_join hL id hv0 (by omega) (by omega)).mono ?_; rintro e W6 ⟨rfl, l6⟩; rw [HJ.out.1, HJ.out.2] at l6; have HLW := Lib.hid l6; obtain ⟨_, _, ho6, _⟩ := l6; have i6 := LockAt.ints ho6; obtain ⟨b6, o6, e6, _, hc6⟩ := i6 (by omega); cases e6; have e60 := hc6 0 (by omega); clear hc6; simp only [Nat.add_zero] at e60)
                | (go_at_call 22; refine (lw_version HLW.out).mono ?_; rintro e w' ⟨rfl, rfl⟩)
                | (go_at_call 23; refine (lw_busy HLW.out).mono ?_; rintro e w' ⟨rfl, rfl⟩; rw [HBUSY.out])
                | (go_at_call 24; refine (lw_holds HLW.out id).mono ?_; rintro e w' ⟨rfl, rfl⟩; rw [HHOLD.out])
                | (go_at_call 25; refine (lw_queue HLW.out HQB.out).mono ?_; rintro e w9 ⟨p9, rfl, o9, b9⟩; obtain ⟨A9, c9, hp9⟩ := own_slice o9; rw [hp9]))
              rw [hp9] at o9
              have r9 := r3_start o9 b9
              clear o9 hp9
              go_loopw [116] (fun vj wr => R3 W6 A9 (q) vj wr) (fun vj _ => q.length - (intOf vj).toNat)
              case atStart => exact r9
              case round =>
                have H9 := Lib.hid hrel
                obtain ⟨j, hj, rfl, hb9, hc9⟩ := hrel
                clear r9 b9
                have hjl : j ≤ q.length := hj
                by_cases hjt : j < q.length
                · obtain ⟨b', hA9, hbb', hc'⟩ := hc9 (by exact hjt)
                  subst hA9
                  obtain ⟨hc1, hf1⟩ := hc' j (by exact hjt) (Nat.le_refl _)
                  obtain ⟨b5, o5, e5, hb5, hc5⟩ := i6 (by omega)
                  cases e5
                  have e4 := (hb9.cell (p := ⟨b4, o4 + j, none⟩) hb5).trans (hc5 j (by exact hjt))
                  have hjb : (0 : Int) ≤ (j : Int) ∧ (j : Int) < (q.length : Int) := by omega
                  clear hc' hc5 hc9
                  generalize (q)[j]'(by exact hjt) = z at *
                  have hzz : (z != z) = false := by simp
                  go_wp2
                  go_quiet (fail)
                  go_wp2
                  go_roundw
                  case rel => exact r3_step H9.out (by exact hjt) (by go_num) _
                  case measure => simp [intOf]; omega
                · have hL9 := HLW.out.below hb9
                  clear hc9 H9
                  go_wp2
                  go_roundw
                  case rel => exact ⟨k + 1, _, _, by omega, by go_num, rfl, HV.out.1, HV.out.2, HQK.out, HN'.out, HO'.out, hL9⟩
                  case measure => simp [intOf]; omega
            · have hpi : idx q id = -1 := by unfold idx; rw [if_neg hin]
              rw [hpi]
              clear hpi
              by_cases hid : id = 0
              · subst hid
                by_cases hqe : q = []
                · have HV : Hid (0 ≤ ver ∧ ver ≤ 2 * ((k + 1 : Nat) : Int)) := ⟨hv0, by omega⟩
                  have HQK : Hid (q.length ≤ k + 1) := by show _ ≤ _; omega
                  have HQB : Hid (q.length ≤ 1000000) := by show _ ≤ _; omega
                  have HN' := HND
                  have HO' := HO
                  have HJ : Hid (joinL q 0 = q ∧ joinV q 0 ver = ver) := by constructor <;> simp [joinL, joinV]

                  have HBUSY : Hid ((ver % 2 == 1) = false) := by show _ = _; rw [odd_busy q ver HO.out]; simp [hqe]
                  have HHOLD : Hid (holdsL q 0 = false) := by show _ = _; rw [hqe]; rfl
                  have hql0 : q.length = 0 := by rw [hqe]; rfl
                  clear hqe
                  clear hin
                  go_wp2_with (first
                    | (go_at_call 20; refine (lw_join hL 0 hv0 (by omega) (by omega)).mono ?_; rintro e W6 ⟨rfl, l6⟩; rw [HJ.out.1, HJ.out.2] at l6; have HLW := Lib.hid l6; obtain ⟨_, _, ho6, _⟩ := l6; have i6 := LockAt.ints ho6)
                    | (go_at_call 22; refine (lw_version HLW.out).mono ?_; rintro e w' ⟨rfl, rfl⟩)
                    | (go_at_call 23; refine (lw_busy HLW.out).mono ?_; rintro e w' ⟨rfl, rfl⟩; rw [HBUSY.out])
                    | (go_at_call 24; refine (lw_holds HLW.out 0).mono ?_; rintro e w' ⟨rfl, rfl⟩; rw [HHOLD.out])
                    | (go_at_call 25; refine (lw_queue HLW.out HQB.out).mono ?_; rintro e w9 ⟨p9, rfl, o9, b9⟩; obtain ⟨A9, c9, hp9⟩ := own_slice o9; rw [hp9]))
                  rw [hp9] at o9
                  have r9 := r3_start o9 b9
                  clear o9 hp9
                  go_loopw [116] (fun vj wr => R3 W6 A9 (q) vj wr) (fun vj _ => q.length - (intOf vj).toNat)
                  case atStart => exact r9
                  case round =>
                    have H9 := Lib.hid hrel
                    obtain ⟨j, hj, rfl, hb9, hc9⟩ := hrel
                    clear r9 b9
                    have hjl : j ≤ q.length := hj
                    have hL9 := HLW.out.below hb9
                    clear hc9 H9
                    obtain rfl : j = 0 := by omega
                    go_wp2
                    go_roundw
                    case rel => exact ⟨k + 1, _, _, by omega, by go_num, rfl, HV.out.1, HV.out.2, HQK.out, HN'.out, HO'.out, (by rw [hql0] at hL9; exact hL9)⟩
                    case measure => simp [intOf]; omega
                · have HV : Hid (0 ≤ ver ∧ ver ≤ 2 * ((k + 1 : Nat) : Int)) := ⟨hv0, by omega⟩
                  have HQK : Hid (q.length ≤ k + 1) := by show _ ≤ _; omega
                  have HQB : Hid (q.length ≤ 1000000) := by show _ ≤ _; omega
                  have HN' := HND
                  have HO' := HO
                  have HJ : Hid (joinL q 0 = q ∧ joinV q 0 ver = ver) := by constructor <;> simp [joinL, joinV]

                  have hql1 : 0 < q.length := List.length_pos_iff.2 hqe
                  have HBUSY : Hid ((ver % 2 == 1) = true) := by show _ = _; rw [odd_busy q ver HO.out]; simp [hql1]
                  have HHOLD : Hid (holdsL q 0 = (q[0]'hql1 == 0)) := by show _ = _; cases q with | nil => simp at hql1 | cons a q => rfl
                  obtain ⟨b4, o4, rfl, hb4, hc4⟩ := hq0 hql1
                  clear hqe hc4
                  clear hin
                  go_wp2_with (first
                    | (go_at_call 20; refine (lw_join hL 0 hv0 (by omega) (by omega)).mono ?_; rintro e W6 ⟨rfl, l6⟩; rw [HJ.out.1, HJ.out.2] at l6; have HLW := Lib.hid l6; obtain ⟨_, _, ho6, _⟩ := l6; have i6 := LockAt.ints ho6; obtain ⟨b6, o6, e6, _, hc6⟩ := i6 (by omega); cases e6; have e60 := hc6 0 (by omega); clear hc6; simp only [Nat.add_zero] at e60)
                    | (go_at_call 22; refine (lw_version HLW.out).mono ?_; rintro e w' ⟨rfl, rfl⟩)
                    | (go_at_call 23; refine (lw_busy HLW.out).mono ?_; rintro e w' ⟨rfl, rfl⟩; rw [HBUSY.out])
                    | (go_at_call 24; refine (lw_holds HLW.out 0).mono ?_; rintro e w' ⟨rfl, rfl⟩; rw [HHOLD.out])
                    | (go_at_call 25; refine (lw_queue HLW.out HQB.out).mono ?_; rintro e w9 ⟨p9, rfl, o9, b9⟩; obtain ⟨A9, c9, hp9⟩ := own_slice o9; rw [hp9]))
                  rw [hp9] at o9
                  have r9 := r3_start o9 b9
                  clear o9 hp9
                  go_loopw [116] (fun vj wr => R3 W6 A9 (q) vj wr) (fun vj _ => q.length - (intOf vj).toNat)
                  case atStart => exact r9
                  case round =>
                    have H9 := Lib.hid hrel
                    obtain ⟨j, hj, rfl, hb9, hc9⟩ := hrel
                    clear r9 b9
                    have hjl : j ≤ q.length := hj
                    by_cases hjt : j < q.length
                    · obtain ⟨b', hA9, hbb', hc'⟩ := hc9 (by exact hjt)
                      subst hA9
                      obtain ⟨hc1, hf1⟩ := hc' j (by exact hjt) (Nat.le_refl _)
                      obtain ⟨b5, o5, e5, hb5, hc5⟩ := i6 (by omega)
                      cases e5
                      have e4 := (hb9.cell (p := ⟨b4, o4 + j, none⟩) hb5).trans (hc5 j (by exact hjt))
                      have hjb : (0 : Int) ≤ (j : Int) ∧ (j : Int) < (q.length : Int) := by omega
                      clear hc' hc5 hc9
                      generalize (q)[j]'(by exact hjt) = z at *
                      have hzz : (z != z) = false := by simp
                      go_wp2
                      go_quiet (fail)
                      go_wp2
                      go_roundw
                      case rel => exact r3_step H9.out (by exact hjt) (by go_num) _
                      case measure => simp [intOf]; omega
                    · have hL9 := HLW.out.below hb9
                      clear hc9 H9
                      go_wp2
                      go_roundw
                      case rel => exact ⟨k + 1, _, _, by omega, by go_num, rfl, HV.out.1, HV.out.2, HQK.out, HN'.out, HO'.out, hL9⟩
                      case measure => simp [intOf]; omega
              · by_cases hqe : q = []
                · have HJ : Hid (joinL q id = q ++ [id] ∧ joinV q id ver = (ver + 1)) := by constructor <;> simp [joinL, joinV, hid, hqe]
                  have HV : Hid (0 ≤ (ver + 1) ∧ (ver + 1) ≤ 2 * ((k + 1 : Nat) : Int)) := ⟨by omega, by omega⟩
                  have HQL : Hid ((q ++ [id]).length = q.length + 1) := by show _ = _; simp
                  have HQK : Hid ((q ++ [id]).length ≤ k + 1) := by show _ ≤ _; rw [HQL.out]; omega
                  have HQB : Hid ((q ++ [id]).length ≤ 1000000) := by show _ ≤ _; rw [HQL.out]; omega
                  have HN' : Hid ((q ++ [id]).Nodup) := by show List.Nodup _; rw [← HJ.out.1]; exact join_nodup q id HND.out
                  have HO' : Hid (Odd_ (q ++ [id]) (ver + 1)) := by show Odd_ _ _; rw [← HJ.out.1, ← HJ.out.2]; exact odd_join q id ver HO.out
                  have HBUSY : Hid (((ver + 1) % 2 == 1) = true) := by show _ = _; rw [odd_busy _ _ HO'.out, HQL.out]; simp
                  obtain ⟨z0, hz0⟩ : ∃ z0, Hid (z0 = (q ++ [id])[0]'(by simp)) := ⟨_, Lib.hid rfl⟩
                  have HHOLD : Hid (holdsL (q ++ [id]) id = (z0 == id)) := by
                    show _ = _
                    rw [hz0.out]
                    cases q with
                    | nil => rfl
                    | cons a q => rfl
                  have hidf : (id != 0) = true := by simp [hid]
                  have hln : ((q.length : Int) + 1 == 1) = true := by simp [hqe]
                  clear hin hid hqe
                  go_wp2_with (first
                    | (go_at_call 20; refine (lw_join hL id hv0 (by omega) (by omega)).mono ?_; rintro e W5 ⟨rfl, l5⟩; rw [HJ.out.1, HJ.out.2] at l5; have HL5 := Lib.hid l5; have hown : (W5.alloc (.cells #[.int .u64 id] 26)).ownsRow w.heap.size 26 1 (.slice A4 q.length c4) q.length (u64s q) := by obtain ⟨_, _, ho, _⟩ := l5; exact ho.alloc _
                       have hcn := Lib.hid (cell_one_new W5 (.int .u64 id) 26); have hbl5 : w.heap.size ≤ W5.heap.size := l5.bl.size; clear l5)
                    | (at_builtin; refine wpList_append_own_at _ rfl _ _ 43 rfl w.heap.size 26 i0 _ 1 8 Try.underlying43 hi0 hz0' hz1 hz2 rfl (by decide) (.slice A4 q.length c4) _ _ rfl hown ⟨W5.heap.size, 0, none⟩ 1 1 [.int .u64 id] rfl rfl hcn.out (by intro u hu; simp at hu; subst hu; rfl) (by unfold maxLen; omega) (by omega) (by simp; omega) ?_; intro v1 W6 hown1 hg1 _ hat1; obtain ⟨g1, c1, hv1⟩ := ownsRow_succ hown1; rw [hv1]; rw [hv1] at hown1 hat1
                       have l6 := HL5.out.want (v' := .slice (some ⟨g1, 0, none⟩) (q.length + 1) c1) (ys := q ++ [id]) (by rw [HQL.out]; simpa [u64s] using hown1) ((World.grownBy_alloc W5 _ _).trans hg1) (.inl rfl) (by rcases hat1 with e | e; exact .inl e; exact .inr ⟨_, e, by simp⟩)
                       have HLW := Lib.hid l6; obtain ⟨_, _, ho6, _⟩ := l6; rw [← HQL.out] at ho6; have i6 := LockAt.ints ho6; obtain ⟨b6, o6, e6, _, hc6⟩ := i6 (by rw [HQL.out]; omega); cases e6; have e60 := hc6 0 (by rw [HQL.out]; omega); clear hc6; simp only [Nat.add_zero, ← hz0.out] at e60; clear hown1 hg1 hat1 hv1 ho6)
                    | (go_at_call 22; refine (lw_version HLW.out).mono ?_; rintro e w' ⟨rfl, rfl⟩)
                    | (go_at_call 23; refine (lw_busy HLW.out).mono ?_; rintro e w' ⟨rfl, rfl⟩; rw [HBUSY.out])
                    | (go_at_call 24; refine (lw_holds HLW.out id).mono ?_; rintro e w' ⟨rfl, rfl⟩; rw [HHOLD.out])
                    | (go_at_call 25; refine (lw_queue HLW.out HQB.out).mono ?_; rintro e w9 ⟨p9, rfl, o9, b9⟩; obtain ⟨A9, c9, hp9⟩ := own_slice o9; rw [hp9, HQL.out]))
                  rw [hp9] at o9
                  have r9 := r3_start o9 b9
                  clear o9 hp9
                  go_loopw [116] (fun vj wr => R3 W6 A9 (q ++ [id]) vj wr) (fun vj _ => q.length + 1 - (intOf vj).toNat)
                  case atStart => exact r9
                  case round =>
                    have H9 := Lib.hid hrel
                    obtain ⟨j, hj, rfl, hb9, hc9⟩ := hrel
                    clear r9 b9
                    have hjl : j ≤ q.length + 1 := by rw [HQL.out] at hj; exact hj
                    by_cases hjt : j < q.length + 1
                    · obtain ⟨b', hA9, hbb', hc'⟩ := hc9 (by rw [HQL.out]; exact hjt)
                      subst hA9
                      obtain ⟨hc1, hf1⟩ := hc' j (by rw [HQL.out]; exact hjt) (Nat.le_refl _)
                      obtain ⟨b5, o5, e5, hb5, hc5⟩ := i6 (by rw [HQL.out]; omega)
                      cases e5
                      have e4 := (hb9.cell (p := ⟨g1, 0 + j, none⟩) hb5).trans (hc5 j (by rw [HQL.out]; exact hjt))
                      simp only [Nat.zero_add] at e4
                      have hjb : (0 : Int) ≤ (j : Int) ∧ (j : Int) < (q.length : Int) + 1 := by omega
                      clear hc' hc5 hc9
                      generalize (q ++ [id])[j]'(by rw [HQL.out]; exact hjt) = z at *
                      have hzz : (z != z) = false := by simp
                      go_wp2
                      go_quiet (fail)
                      go_wp2
                      go_roundw
                      case rel => exact r3_step H9.out (by rw [HQL.out]; exact hjt) (by go_num) _
                      case measure => simp [intOf]; omega
                    · have hL9 := HLW.out.below hb9
                      clear hc9 H9
                      go_wp2
                      go_roundw
                      case rel => exact ⟨k + 1, _, _, by omega, by go_num, rfl, HV.out.1, HV.out.2, HQK.out, HN'.out, HO'.out, hL9⟩
                      case measure => simp [intOf]; omega
                · have HJ : Hid (joinL q id = q ++ [id] ∧ joinV q id ver = ver) := by constructor <;> simp [joinL, joinV, hid, hqe, hin]
                  have HV : Hid (0 ≤ ver ∧ ver ≤ 2 * ((k + 1 : Nat) : Int)) := ⟨by omega, by omega⟩
                  have HQL : Hid ((q ++ [id]).length = q.length + 1) := by show _ = _; simp
                  have HQK : Hid ((q ++ [id]).length ≤ k + 1) := by show _ ≤ _; rw [HQL.out]; omega
                  have HQB : Hid ((q ++ [id]).length ≤ 1000000) := by show _ ≤ _; rw [HQL.out]; omega
                  have HN' : Hid ((q ++ [id]).Nodup) := by show List.Nodup _; rw [← HJ.out.1]; exact join_nodup q id HND.out
                  have HO' : Hid (Odd_ (q ++ [id]) ver) := by show Odd_ _ _; rw [← HJ.out.1, ← HJ.out.2]; exact odd_join q id ver HO.out
                  have HBUSY : Hid ((ver % 2 == 1) = true) := by show _ = _; rw [odd_busy _ _ HO'.out, HQL.out]; simp
                  obtain ⟨z0, hz0⟩ : ∃ z0, Hid (z0 = (q ++ [id])[0]'(by simp)) := ⟨_, Lib.hid rfl⟩
                  have HHOLD : Hid (holdsL (q ++ [id]) id = (z0 == id)) := by
                    show _ = _
                    rw [hz0.out]
                    cases q with
                    | nil => rfl
                    | cons a q => rfl
                  have hidf : (id != 0) = true := by simp [hid]
                  have hln : ((q.length : Int) + 1 == 1) = false := by have := List.length_pos_iff.2 hqe; simp; omega
                  clear hin hid hqe
                  go_wp2_with (first
                    | (go_at_call 20; refine (lw_join hL id hv0 (by omega) (by omega)).mono ?_; rintro e W5 ⟨rfl, l5⟩; rw [HJ.out.1, HJ.out.2] at l5; have HL5 := Lib.hid l5; have hown : (W5.alloc (.cells #[.int .u64 id] 26)).ownsRow w.heap.size 26 1 (.slice A4 q.length c4) q.length (u64s q) := by obtain ⟨_, _, ho, _⟩ := l5; exact ho.alloc _
                       have hcn := Lib.hid (cell_one_new W5 (.int .u64 id) 26); have hbl5 : w.heap.size ≤ W5.heap.size := l5.bl.size; clear l5)
                    | (at_builtin; refine wpList_append_own_at _ rfl _ _ 43 rfl w.heap.size 26 i0 _ 1 8 Try.underlying43 hi0 hz0' hz1 hz2 rfl (by decide) (.slice A4 q.length c4) _ _ rfl hown ⟨W5.heap.size, 0, none⟩ 1 1 [.int .u64 id] rfl rfl hcn.out (by intro u hu; simp at hu; subst hu; rfl) (by unfold maxLen; omega) (by omega) (by simp; omega) ?_; intro v1 W6 hown1 hg1 _ hat1; obtain ⟨g1, c1, hv1⟩ := ownsRow_succ hown1; rw [hv1]; rw [hv1] at hown1 hat1
                       have l6 := HL5.out.want (v' := .slice (some ⟨g1, 0, none⟩) (q.length + 1) c1) (ys := q ++ [id]) (by rw [HQL.out]; simpa [u64s] using hown1) ((World.grownBy_alloc W5 _ _).trans hg1) (.inl rfl) (by rcases hat1 with e | e; exact .inl e; exact .inr ⟨_, e, by simp⟩)
                       have HLW := Lib.hid l6; obtain ⟨_, _, ho6, _⟩ := l6; rw [← HQL.out] at ho6; have i6 := LockAt.ints ho6; obtain ⟨b6, o6, e6, _, hc6⟩ := i6 (by rw [HQL.out]; omega); cases e6; have e60 := hc6 0 (by rw [HQL.out]; omega); clear hc6; simp only [Nat.add_zero, ← hz0.out] at e60; clear hown1 hg1 hat1 hv1 ho6)
                    | (go_at_call 22; refine (lw_version HLW.out).mono ?_; rintro e w' ⟨rfl, rfl⟩)
                    | (go_at_call 23; refine (lw_busy HLW.out).mono ?_; rintro e w' ⟨rfl, rfl⟩; rw [HBUSY.out])
                    | (go_at_call 24; refine (lw_holds HLW.out id).mono ?_; rintro e w' ⟨rfl, rfl⟩; rw [HHOLD.out])
                    | (go_at_call 25; refine (lw_queue HLW.out HQB.out).mono ?_; rintro e w9 ⟨p9, rfl, o9, b9⟩; obtain ⟨A9, c9, hp9⟩ := own_slice o9; rw [hp9, HQL.out]))
                  rw [hp9] at o9
                  have r9 := r3_start o9 b9
                  clear o9 hp9
                  go_loopw [116] (fun vj wr => R3 W6 A9 (q ++ [id]) vj wr) (fun vj _ => q.length + 1 - (intOf vj).toNat)
                  case atStart => exact r9
                  case round =>
                    have H9 := Lib.hid hrel
                    obtain ⟨j, hj, rfl, hb9, hc9⟩ := hrel
                    clear r9 b9
                    have hjl : j ≤ q.length + 1 := by rw [HQL.out] at hj; exact hj
                    by_cases hjt : j < q.length + 1
                    · obtain ⟨b', hA9, hbb', hc'⟩ := hc9 (by rw [HQL.out]; exact hjt)
                      subst hA9
                      obtain ⟨hc1, hf1⟩ := hc' j (by rw [HQL.out]; exact hjt) (Nat.le_refl _)
                      obtain ⟨b5, o5, e5, hb5, hc5⟩ := i6 (by rw [HQL.out]; omega)
                      cases e5
                      have e4 := (hb9.cell (p := ⟨g1, 0 + j, none⟩) hb5).trans (hc5 j (by rw [HQL.out]; exact hjt))
                      simp only [Nat.zero_add] at e4
                      have hjb : (0 : Int) ≤ (j : Int) ∧ (j : Int) < (q.length : Int) + 1 := by omega
                      clear hc' hc5 hc9
                      generalize (q ++ [id])[j]'(by rw [HQL.out]; exact hjt) = z at *
                      have hzz : (z != z) = false := by simp
                      go_wp2
                      go_quiet (fail)
                      go_wp2
                      go_roundw
                      case rel => exact r3_step H9.out (by rw [HQL.out]; exact hjt) (by go_num) _
                      case measure => simp [intOf]; omega
                    · have hL9 := HLW.out.below hb9
                      clear hc9 H9
                      go_wp2
                      go_roundw
                      case rel => exact ⟨k + 1, _, _, by omega, by go_num, rfl, HV.out.1, HV.out.2, HQK.out, HN'.out, HO'.out, hL9⟩
                      case measure => simp [intOf]; omega
          · have hy1 : y = 1 := by omega
            subst hy1
            by_cases hin : id ∈ q
            · obtain ⟨p, hp, hpi, hpx⟩ : ∃ p : Nat, p < q.length ∧ idx q id = p ∧ q.idxOf id = p := ⟨_, List.idxOf_lt_length_of_mem hin, by unfold idx; rw [if_pos hin], rfl⟩
              rw [hpi]
              clear hpi
              obtain ⟨b4, o4, rfl, hb4, hc4⟩ := hq0 (by omega)
              clear hc4
              have hcq : q.length ≤ c4 := by obtain ⟨_, _, ho, _⟩ := hL; obtain ⟨_, _, _, _, _, h, _⟩ := own_blk ho (by omega); exact h
              have hpc : p ≤ c4 := by omega
              have hpc1 : p + 1 ≤ c4 := by omega
              have HJ0 := Lib.hid hin
              have HPX := Lib.hid hpx
              clear hin hpx
              have hb1 : (0 : Int) ≤ (p : Int) + 1 ∧ (p : Int) + 1 ≤ (q.length : Int) := by omega
              obtain ⟨A2, hA2, HA2⟩ : ∃ A2 : Addr, (if c4 = p + 1 then some (⟨b4, o4, none⟩ : Addr) else some ⟨b4, o4 + (p + 1), none⟩) = some A2 ∧ Hid (∀ (W : World) B, IntsAt .u64 W B (some ⟨b4, o4, none⟩) q → Reads W B 1 (some A2) (q.length - (p + 1)) (u64s (q.drop (p + 1)))) := reads_after q p hcq hp
              have R1' : Hid (∀ (W : World) B, IntsAt .u64 W B (some ⟨b4, o4, none⟩) q → Reads W B 1 (some ⟨b4, o4, none⟩) p (u64s (q.take p))) := fun W B h => reads_take h (by omega)
              obtain ⟨m, hm⟩ : ∃ m, m = 0 + p + (q.length - (p + 1)) := ⟨_, rfl⟩
              have HQL : Hid ((q.eraseIdx p).length = m) := by show _ = _; rw [List.length_eraseIdx, if_pos (by omega)]; omega
              have hql1 : 0 < q.length := by omega
              obtain ⟨Q, hQ⟩ : ∃ Q, Q = q.eraseIdx p := ⟨_, rfl⟩
              obtain ⟨V, hV⟩ : ∃ V, V = leaveV q id ver := ⟨_, rfl⟩
              have hleq : leaveL q id = Q := by rw [hQ]; unfold leaveL; rw [List.erase_eq_eraseIdx_of_idxOf HPX.out]
              have HQE := Lib.hid hQ
              go_wp2_with (go_at_call 21; refine (lw_leave hL id hv0 (by omega) (by omega)).mono ?_; rintro e W5 ⟨rfl, l5⟩; rw [hleq, ← hV] at l5)
              have i5 : IntsAt .u64 W5 W5.heap.size (some ⟨b4, o4, none⟩) q := by obtain ⟨_, _, _, ho, _⟩ := hL; exact ints_of_list l5
              have HL5 := Lib.hid l5
              have r1 := R1'.out W5.drew _ (i5.keep (fun _ _ => rfl))
              have hbl : w.heap.size ≤ W5.drew.heap.size := l5.bl.size
              have hnb : 0 + p ≤ maxLen ∧ (0 + p) * 8 ≤ 140737488355328 ∧ 0 + p + (q.length - (p + 1)) ≤ maxLen ∧ (0 + p + (q.length - (p + 1))) * 8 ≤ 140737488355328 := by unfold maxLen; omega
              have HB := Lib.hid hnb
              have hwr : IntKind.i64.wrap ((p : Int) + 1) = (p : Int) + 1 := IntWalk.i64_in _ (by omega)
              have htn : ((p : Int) + 1).toNat = p + 1 := by omega
              clear hnb l5
              go_region_law (first
                | (refine step_append_any _ rfl (.const (.slice none 0 0)) (.tmp 67) 43 rfl w.heap.size 26 i0 _ 1 8 Try.underlying43 hi0 hz0' hz1 hz2 rfl (by decide) (.slice none 0 0) 0 [] rfl (World.ownsRow_nil _ _ _ _) _ _ p c4 (u64s (q.take p)) (by simp [Act.eval, Act.put]) r1 (one_u64s _) HB.out.1 HB.out.2.1 hbl ?_; intro v6 Wa o6 g6 a6)
                | (refine step_append_any _ rfl (.tmp 68) (.tmp 72) 43 rfl w.heap.size 26 i0 _ 1 8 Try.underlying43 hi0 hz0' hz1 hz2 rfl (by decide) v6 (0 + p) _ (by simp [Act.eval]) o6 _ _ (q.length - (p + 1)) (c4 - (p + 1)) (u64s (q.drop (p + 1))) (by simp [Act.eval]) (HA2.out Wa W5.heap.size (i5.keep (fun q hq => World.cell?_of_block (g6.block q.block hq (by simp [Value.ownBlock]))))) (one_u64s _) HB.out.2.2.1 HB.out.2.2.2 (Nat.le_trans hbl g6.size) ?_; intro v7 W6 o7 g7 a7))
              obtain ⟨A7, c7, rfl⟩ := own_slice o7
              rw [← hm] at o7 a7 ⊢
              have l6 : LW w ga Q V (.slice A7 m c7) Q W6 := by
                rw [hQ]
                have hl5 := HL5.out
                rw [hQ] at hl5
                refine hl5.want0 (by rw [HQL.out, ← append_erase]; exact o7) ?_ ?_
                · refine grown_none (grown_none (only_drew (only_refl W5 none)) g6 (by simp [Value.ownBlock])) g7 (fun x hx => ?_)
                  rcases a6 with e | e <;> rw [e] at hx
                  · simp [Value.ownBlock] at hx
                  · cases hx; exact Nat.le_refl _
                · intro y hy
                  rcases a7 with e | e <;> rw [e] at hy
                  · rcases a6 with e | e <;> rw [e] at hy
                    · simp [Value.ownBlock] at hy
                    · cases hy; exact Nat.le_refl _
                  · cases hy; exact g6.size
              have HM := Lib.hid hm
              clear hm
              clear o7 g7 a7 o6 g6 a6 r1 i5 hA2 hwr htn hbl HA2 R1' HB hcq hpc hpc1
              have HLW := Lib.hid l6
              by_cases hp0 : p = 0
              · by_cases hq1 : 1 < q.length
                · obtain rfl : V = (ver + 1 + 1) := by
                    rw [hV]; unfold leaveV; rw [if_pos HJ0.out, HPX.out]; rw [if_pos hp0, if_pos hq1]
                  have hpz : ((p : Int) == 0) = true := by simp; omega
                  have HV : Hid (0 ≤ (ver + 1 + 1) ∧ (ver + 1 + 1) ≤ 2 * ((k + 1 : Nat) : Int)) := ⟨by omega, by omega⟩
                  have HN' : Hid Q.Nodup := by show List.Nodup _; rw [← hleq]; exact leave_nodup q id HND.out
                  have hmm : 0 < m := by have := HM.out; omega
                  have hmi : 0 < (m : Int) := by omega
                  have HQL : Hid (Q.length = m) := by show _ = _; rw [hQ]; exact HQL.out
                  have hmM : m ≤ 1000 := by have := HM.out; omega
                  have hmI : (m : Int) ≤ 1000 := by omega
                  have HQK : Hid (Q.length ≤ k + 1) := by show _ ≤ _; have := HM.out; rw [HQL.out]; omega
                  have HQB : Hid (Q.length ≤ 1000000) := by show _ ≤ _; rw [HQL.out]; omega
                  have HO' : Hid (Odd_ Q (ver + 1 + 1)) := by
                    show Odd_ _ _
                    have h1 := HO.out
                    unfold Odd_ at *
                    rw [if_neg (by intro e; rw [e] at hql1; simp at hql1)] at h1
                    rw [if_neg (by intro e; have := HQL.out; rw [e] at this; simp at this; omega)]
                    omega
                  have HBUSY : Hid (((ver + 1 + 1) % 2 == 1) = true) := by show _ = _; rw [odd_busy _ _ HO'.out, HQL.out]; exact decide_eq_true hmm
                  obtain ⟨z0, hz0⟩ : ∃ z0, Hid (z0 = Q[0]'(by rw [HQL.out]; exact hmm)) := ⟨_, Lib.hid rfl⟩
                  have HHOLD : Hid (holdsL Q id = (z0 == id)) := by
                    show _ = _
                    rw [hz0.out]; exact holds_first _ _ _
                  obtain ⟨_, _, ho6, _⟩ := l6
                  have i6 : IntsAt .u64 W6 W6.heap.size A7 Q := ints_of_list HLW.out
                  obtain ⟨g7, o7, e7, _, hc6⟩ := i6 (by rw [HQL.out]; exact hmm)
                  subst e7
                  have e60 := hc6 0 (by rw [HQL.out]; exact hmm)
                  clear hc6
                  simp only [Nat.add_zero, ← hz0.out] at e60
                  clear hp0 hV hleq hQ
                  go_wp2_with (first
                    | (go_at_call 22; refine (lw_version HLW.out).mono ?_; rintro e w' ⟨rfl, rfl⟩)
                    | (go_at_call 23; refine (lw_busy HLW.out).mono ?_; rintro e w' ⟨rfl, rfl⟩; rw [HBUSY.out])
                    | (go_at_call 24; refine (lw_holds HLW.out id).mono ?_; rintro e w' ⟨rfl, rfl⟩; rw [HHOLD.out])
                    | (go_at_call 25; refine (lw_queue HLW.out HQB.out).mono ?_; rintro e w9 ⟨p9, rfl, o9, b9⟩; obtain ⟨A9, c9, hp9⟩ := own_slice o9; rw [hp9, HQL.out]))
                  rw [hp9] at o9
                  have r9 := r3_start o9 b9
                  clear o9 hp9
                  go_loopw [116] (fun vj wr => R3 W6 A9 (Q) vj wr) (fun vj _ => m - (intOf vj).toNat)
                  case atStart => exact r9
                  case round =>
                    have H9 := Lib.hid hrel
                    obtain ⟨j, hj, rfl, hb9, hc9⟩ := hrel
                    clear r9 b9
                    have hjl : j ≤ m := by rw [HQL.out] at hj; exact hj
                    by_cases hjt : j < m
                    · obtain ⟨b', hA9, hbb', hc'⟩ := hc9 (by rw [HQL.out]; exact hjt)
                      subst hA9
                      obtain ⟨hc1, hf1⟩ := hc' j (by rw [HQL.out]; exact hjt) (Nat.le_refl _)
                      obtain ⟨b5, o5, e5, hb5, hc5⟩ := i6 (by rw [HQL.out]; omega)
                      cases e5
                      have e4 := (hb9.cell (p := ⟨g7, o7 + j, none⟩) hb5).trans (hc5 j (by rw [HQL.out]; exact hjt))
                      have hjb : (0 : Int) ≤ (j : Int) ∧ (j : Int) < ((m : Nat) : Int) := by omega
                      clear hc' hc5 hc9
                      generalize (Q)[j]'(by rw [HQL.out]; exact hjt) = z at *
                      have hzz : (z != z) = false := by simp
                      go_wp2
                      go_quiet (fail)
                      go_wp2
                      go_roundw
                      case rel => exact r3_step H9.out (by rw [HQL.out]; exact hjt) (by go_num) _
                      case measure => simp [intOf]; omega
                    · have hL9 := HLW.out.below hb9
                      clear hc9 H9
                      go_wp2
                      go_roundw
                      case rel => exact ⟨k + 1, _, _, by omega, by go_num, rfl, HV.out.1, HV.out.2, HQK.out, HN'.out, HO'.out, hL9⟩
                      case measure => simp [intOf]; omega
                · obtain rfl : V = (ver + 1) := by
                    rw [hV]; unfold leaveV; rw [if_pos HJ0.out, HPX.out]; rw [if_pos hp0, if_neg hq1]
                  have hpz : ((p : Int) == 0) = true := by simp; omega
                  have HV : Hid (0 ≤ (ver + 1) ∧ (ver + 1) ≤ 2 * ((k + 1 : Nat) : Int)) := ⟨by omega, by omega⟩
                  have HN' : Hid Q.Nodup := by show List.Nodup _; rw [← hleq]; exact leave_nodup q id HND.out
                  have hmm : m = 0 := by have := HM.out; omega
                  have hmi : (m : Int) = 0 := by omega
                  have HQL : Hid (Q.length = m) := by show _ = _; rw [hQ]; exact HQL.out
                  have hmM : m ≤ 1000 := by have := HM.out; omega
                  have hmI : (m : Int) ≤ 1000 := by omega
                  have HQK : Hid (Q.length ≤ k + 1) := by show _ ≤ _; have := HM.out; rw [HQL.out]; omega
                  have HQB : Hid (Q.length ≤ 1000000) := by show _ ≤ _; rw [HQL.out]; omega
                  have HO' : Hid (Odd_ Q (ver + 1)) := by
                    show Odd_ _ _
                    have h1 := HO.out
                    unfold Odd_ at *
                    rw [if_neg (by intro e; rw [e] at hql1; simp at hql1)] at h1
                    rw [if_pos (List.eq_nil_of_length_eq_zero (HQL.out.trans hmm))]
                    omega
                  have HBUSY : Hid (((ver + 1) % 2 == 1) = false) := by show _ = _; rw [odd_busy _ _ HO'.out, HQL.out]; exact decide_eq_false (by omega)
                  have HHOLD : Hid (holdsL Q id = false) := by
                    show _ = _
                    rw [List.eq_nil_of_length_eq_zero (HQL.out.trans hmm)]; rfl
                  clear hp0 hV hleq hQ hq1
                  subst hmm
                  clear hmi l6 hmI hmM
                  go_wp2_with (first
                    | (go_at_call 22; refine (lw_version HLW.out).mono ?_; rintro e w' ⟨rfl, rfl⟩)
                    | (go_at_call 23; refine (lw_busy HLW.out).mono ?_; rintro e w' ⟨rfl, rfl⟩; rw [HBUSY.out])
                    | (go_at_call 24; refine (lw_holds HLW.out id).mono ?_; rintro e w' ⟨rfl, rfl⟩; rw [HHOLD.out])
                    | (go_at_call 25; refine (lw_queue HLW.out HQB.out).mono ?_; rintro e w9 ⟨p9, rfl, o9, b9⟩; obtain ⟨A9, c9, hp9⟩ := own_slice o9; rw [hp9, HQL.out]))
                  rw [hp9] at o9
                  have r9 := r3_start o9 b9
                  clear o9 hp9
                  go_loopw [116] (fun vj wr => R3 W6 A9 (Q) vj wr) (fun vj _ => 0 - (intOf vj).toNat)
                  case atStart => exact r9
                  case round =>
                    have H9 := Lib.hid hrel
                    obtain ⟨j, hj, rfl, hb9, hc9⟩ := hrel
                    clear r9 b9
                    have hjl : j ≤ 0 := by rw [HQL.out] at hj; exact hj
                    have hL9 := HLW.out.below hb9
                    clear hc9 H9
                    obtain rfl : j = 0 := by omega
                    go_wp2
                    go_roundw
                    case rel => exact ⟨k + 1, _, _, by omega, by go_num, rfl, HV.out.1, HV.out.2, HQK.out, HN'.out, HO'.out, hL9⟩
                    case measure => simp [intOf]; omega
              · obtain rfl : V = ver := by
                  rw [hV]; unfold leaveV; rw [if_pos HJ0.out, HPX.out]; rw [if_neg hp0]
                have hpz : ((p : Int) == 0) = false := by simp; omega
                have HV : Hid (0 ≤ V ∧ V ≤ 2 * ((k + 1 : Nat) : Int)) := ⟨by omega, by omega⟩
                have HN' : Hid Q.Nodup := by show List.Nodup _; rw [← hleq]; exact leave_nodup q id HND.out
                have hmm : 0 < m := by have := HM.out; omega
                have hmi : 0 < (m : Int) := by omega
                have HQL : Hid (Q.length = m) := by show _ = _; rw [hQ]; exact HQL.out
                have hmM : m ≤ 1000 := by have := HM.out; omega
                have hmI : (m : Int) ≤ 1000 := by omega
                have HQK : Hid (Q.length ≤ k + 1) := by show _ ≤ _; have := HM.out; rw [HQL.out]; omega
                have HQB : Hid (Q.length ≤ 1000000) := by show _ ≤ _; rw [HQL.out]; omega
                have HO' : Hid (Odd_ Q V) := by
                  show Odd_ _ _
                  have h1 := HO.out
                  unfold Odd_ at *
                  rw [if_neg (by intro e; rw [e] at hql1; simp at hql1)] at h1
                  rw [if_neg (by intro e; have := HQL.out; rw [e] at this; simp at this; omega)]
                  omega
                have HBUSY : Hid ((V % 2 == 1) = true) := by show _ = _; rw [odd_busy _ _ HO'.out, HQL.out]; exact decide_eq_true hmm
                obtain ⟨z0, hz0⟩ : ∃ z0, Hid (z0 = Q[0]'(by rw [HQL.out]; exact hmm)) := ⟨_, Lib.hid rfl⟩
                have HHOLD : Hid (holdsL Q id = (z0 == id)) := by
                  show _ = _
                  rw [hz0.out]; exact holds_first _ _ _
                obtain ⟨_, _, ho6, _⟩ := l6
                have i6 : IntsAt .u64 W6 W6.heap.size A7 Q := ints_of_list HLW.out
                obtain ⟨g7, o7, e7, _, hc6⟩ := i6 (by rw [HQL.out]; exact hmm)
                subst e7
                have e60 := hc6 0 (by rw [HQL.out]; exact hmm)
                clear hc6
                simp only [Nat.add_zero, ← hz0.out] at e60
                clear hp0 hV hleq hQ
                go_wp2_with (first
                  | (go_at_call 22; refine (lw_version HLW.out).mono ?_; rintro e w' ⟨rfl, rfl⟩)
                  | (go_at_call 23; refine (lw_busy HLW.out).mono ?_; rintro e w' ⟨rfl, rfl⟩; rw [HBUSY.out])
                  | (go_at_call 24; refine (lw_holds HLW.out id).mono ?_; rintro e w' ⟨rfl, rfl⟩; rw [HHOLD.out])
                  | (go_at_call 25; refine (lw_queue HLW.out HQB.out).mono ?_; rintro e w9 ⟨p9, rfl, o9, b9⟩; obtain ⟨A9, c9, hp9⟩ := own_slice o9; rw [hp9, HQL.out]))
                rw [hp9] at o9
                have r9 := r3_start o9 b9
                clear o9 hp9
                go_loopw [116] (fun vj wr => R3 W6 A9 (Q) vj wr) (fun vj _ => m - (intOf vj).toNat)
                case atStart => exact r9
                case round =>
                  have H9 := Lib.hid hrel
                  obtain ⟨j, hj, rfl, hb9, hc9⟩ := hrel
                  clear r9 b9
                  have hjl : j ≤ m := by rw [HQL.out] at hj; exact hj
                  by_cases hjt : j < m
                  · obtain ⟨b', hA9, hbb', hc'⟩ := hc9 (by rw [HQL.out]; exact hjt)
                    subst hA9
                    obtain ⟨hc1, hf1⟩ := hc' j (by rw [HQL.out]; exact hjt) (Nat.le_refl _)
                    obtain ⟨b5, o5, e5, hb5, hc5⟩ := i6 (by rw [HQL.out]; omega)
                    cases e5
                    have e4 := (hb9.cell (p := ⟨g7, o7 + j, none⟩) hb5).trans (hc5 j (by rw [HQL.out]; exact hjt))
                    have hjb : (0 : Int) ≤ (j : Int) ∧ (j : Int) < ((m : Nat) : Int) := by omega
                    clear hc' hc5 hc9
                    generalize (Q)[j]'(by rw [HQL.out]; exact hjt) = z at *
                    have hzz : (z != z) = false := by simp
                    go_wp2
                    go_quiet (fail)
                    go_wp2
                    go_roundw
                    case rel => exact r3_step H9.out (by rw [HQL.out]; exact hjt) (by go_num) _
                    case measure => simp [intOf]; omega
                  · have hL9 := HLW.out.below hb9
                    clear hc9 H9
                    go_wp2
                    go_roundw
                    case rel => exact ⟨k + 1, _, _, by omega, by go_num, rfl, HV.out.1, HV.out.2, HQK.out, HN'.out, HO'.out, hL9⟩
                    case measure => simp [intOf]; omega
            · have hpi : idx q id = -1 := by unfold idx; rw [if_neg hin]
              rw [hpi]
              clear hpi
              by_cases hqe : q = []
              · have HV : Hid (0 ≤ ver ∧ ver ≤ 2 * ((k + 1 : Nat) : Int)) := ⟨hv0, by omega⟩
                have HQK : Hid (q.length ≤ k + 1) := by show _ ≤ _; omega
                have HQB : Hid (q.length ≤ 1000000) := by show _ ≤ _; omega
                have HN' := HND
                have HO' := HO
                have HJ : Hid (leaveL q id = q ∧ leaveV q id ver = ver) := by constructor; exact List.erase_of_not_mem hin; simp [leaveV, hin]

                have HBUSY : Hid ((ver % 2 == 1) = false) := by show _ = _; rw [odd_busy q ver HO.out]; simp [hqe]
                have HHOLD : Hid (holdsL q id = false) := by show _ = _; rw [hqe]; rfl
                have hql0 : q.length = 0 := by rw [hqe]; rfl
                clear hqe
                clear hin
                go_wp2_with (first
                  | (go_at_call 21; refine (lw_leave hL id hv0 (by omega) (by omega)).mono ?_; rintro e W6 ⟨rfl, l6⟩; rw [HJ.out.1, HJ.out.2] at l6; have HLW := Lib.hid l6; obtain ⟨_, _, ho6, _⟩ := l6; have i6 := LockAt.ints ho6)
                  | (go_at_call 22; refine (lw_version HLW.out).mono ?_; rintro e w' ⟨rfl, rfl⟩)
                  | (go_at_call 23; refine (lw_busy HLW.out).mono ?_; rintro e w' ⟨rfl, rfl⟩; rw [HBUSY.out])
                  | (go_at_call 24; refine (lw_holds HLW.out id).mono ?_; rintro e w' ⟨rfl, rfl⟩; rw [HHOLD.out])
                  | (go_at_call 25; refine (lw_queue HLW.out HQB.out).mono ?_; rintro e w9 ⟨p9, rfl, o9, b9⟩; obtain ⟨A9, c9, hp9⟩ := own_slice o9; rw [hp9]))
                rw [hp9] at o9
                have r9 := r3_start o9 b9
                clear o9 hp9
                go_loopw [116] (fun vj wr => R3 W6 A9 (q) vj wr) (fun vj _ => q.length - (intOf vj).toNat)
                case atStart => exact r9
                case round =>
                  have H9 := Lib.hid hrel
                  obtain ⟨j, hj, rfl, hb9, hc9⟩ := hrel
                  clear r9 b9
                  have hjl : j ≤ q.length := hj
                  have hL9 := HLW.out.below hb9
                  clear hc9 H9
                  obtain rfl : j = 0 := by omega
                  go_wp2
                  go_roundw
                  case rel => exact ⟨k + 1, _, _, by omega, by go_num, rfl, HV.out.1, HV.out.2, HQK.out, HN'.out, HO'.out, (by rw [hql0] at hL9; exact hL9)⟩
                  case measure => simp [intOf]; omega
              · have HV : Hid (0 ≤ ver ∧ ver ≤ 2 * ((k + 1 : Nat) : Int)) := ⟨hv0, by omega⟩
                have HQK : Hid (q.length ≤ k + 1) := by show _ ≤ _; omega
                have HQB : Hid (q.length ≤ 1000000) := by show _ ≤ _; omega
                have HN' := HND
                have HO' := HO
                have HJ : Hid (leaveL q id = q ∧ leaveV q id ver = ver) := by constructor; exact List.erase_of_not_mem hin; simp [leaveV, hin]

                have hql1 : 0 < q.length := List.length_pos_iff.2 hqe
                have HBUSY : Hid ((ver % 2 == 1) = true) := by show _ = _; rw [odd_busy q ver HO.out]; simp [hql1]
                have HHOLD : Hid (holdsL q id = (q[0]'hql1 == id)) := by show _ = _; cases q with | nil => simp at hql1 | cons a q => rfl
                obtain ⟨b4, o4, rfl, hb4, hc4⟩ := hq0 hql1
                clear hqe hc4
                clear hin
                go_wp2_with (first
                  | (go_at_call 21; refine (lw_leave hL id hv0 (by omega) (by omega)).mono ?_; rintro e W6 ⟨rfl, l6⟩; rw [HJ.out.1, HJ.out.2] at l6; have HLW := Lib.hid l6; obtain ⟨_, _, ho6, _⟩ := l6; have i6 := LockAt.ints ho6; obtain ⟨b6, o6, e6, _, hc6⟩ := i6 (by omega); cases e6; have e60 := hc6 0 (by omega); clear hc6; simp only [Nat.add_zero] at e60)
                  | (go_at_call 22; refine (lw_version HLW.out).mono ?_; rintro e w' ⟨rfl, rfl⟩)
                  | (go_at_call 23; refine (lw_busy HLW.out).mono ?_; rintro e w' ⟨rfl, rfl⟩; rw [HBUSY.out])
                  | (go_at_call 24; refine (lw_holds HLW.out id).mono ?_; rintro e w' ⟨rfl, rfl⟩; rw [HHOLD.out])
                  | (go_at_call 25; refine (lw_queue HLW.out HQB.out).mono ?_; rintro e w9 ⟨p9, rfl, o9, b9⟩; obtain ⟨A9, c9, hp9⟩ := own_slice o9; rw [hp9]))
                rw [hp9] at o9
                have r9 := r3_start o9 b9
                clear o9 hp9
                go_loopw [116] (fun vj wr => R3 W6 A9 (q) vj wr) (fun vj _ => q.length - (intOf vj).toNat)
                case atStart => exact r9
                case round =>
                  have H9 := Lib.hid hrel
                  obtain ⟨j, hj, rfl, hb9, hc9⟩ := hrel
                  clear r9 b9
                  have hjl : j ≤ q.length := hj
                  by_cases hjt : j < q.length
                  · obtain ⟨b', hA9, hbb', hc'⟩ := hc9 (by exact hjt)
                    subst hA9
                    obtain ⟨hc1, hf1⟩ := hc' j (by exact hjt) (Nat.le_refl _)
                    obtain ⟨b5, o5, e5, hb5, hc5⟩ := i6 (by omega)
                    cases e5
                    have e4 := (hb9.cell (p := ⟨b4, o4 + j, none⟩) hb5).trans (hc5 j (by exact hjt))
                    have hjb : (0 : Int) ≤ (j : Int) ∧ (j : Int) < (q.length : Int) := by omega
                    clear hc' hc5 hc9
                    generalize (q)[j]'(by exact hjt) = z at *
                    have hzz : (z != z) = false := by simp
                    go_wp2
                    go_quiet (fail)
                    go_wp2
                    go_roundw
                    case rel => exact r3_step H9.out (by exact hjt) (by go_num) _
                    case measure => simp [intOf]; omega
                  · have hL9 := HLW.out.below hb9
                    clear hc9 H9
                    go_wp2
                    go_roundw
                    case rel => exact ⟨k + 1, _, _, by omega, by go_num, rfl, HV.out.1, HV.out.2, HQK.out, HN'.out, HO'.out, hL9⟩
                    case measure => simp [intOf]; omega
    · go_wp2
      go_ret
      exact ⟨rfl, hL.bl⟩

set_option maxRecDepth 100000 in
theorem ticketRuns_lifted (os : Os) (started : os.Started) (H : Type) (enc : TypeId × Value → H) :
    ReturnsInHanded {} Try.checked os 7 .any (Rows.ticketRunsSpec.pre6 enc Try.prog Try.f7 Rows.ticketRunsRow.domain false) (Rows.ticketRunsSpec.post enc Try.prog Try.f7 false true false false) := by
  refine lifted_of (C := Try.checked) laidOut own started (by kernel_rfl) Try.func7 rfl Try.underlying4 (by kernel_rfl) rfl
    (fun ds hds => by match ds, hds with | [_], _ => rfl)
    (ChangeSpec.witness6 (enc := enc) (C := Try.checked) false ⟨#[], #[.slice none 0 0], []⟩ 8 (by kernel_rfl) (by kernel_rfl) (by kernel_rfl) (by kernel_rfl)) ?_
  intro W base args ds ps hval0 hA0 hlt
  have hval : ∀ (j : Nat) t v, Try.f7.params[j]? = some t → args[j]? = some v → Value.okWide Try.prog W .any base t v := hval0
  have hA : DataW.TrodAll enc Try.prog W 0 (fun _ => true) true Try.f7.params.toList args.toList ds ps := hA0
  rw [Try.params7] at hA hval
  obtain ⟨v0, vs0, d0, ds0, p0, q0, hargs, rfl, rfl, h0, r0⟩ := trodAll_cons hA
  obtain ⟨rfl, rfl, rfl⟩ := trodAll_nil r0
  obtain rfl : args = #[v0] := by cases args; simp_all
  obtain ⟨A0, l0, c0, rfl, hm0, hi0, hw0⟩ := open_intsV Try.underlying22 Try.underlying3 (by kernel_rfl) (hval 0 22 v0 rfl rfl) h0 (fun x hx => hlt x (List.mem_append_left _ hx))
  exact ticketRuns_walk A0 c0 l0 W hi0 (by unfold maxLen at hm0; omega)

theorem ticketRuns_holds : Rows.TicketRunsSaid :=
  OpenClaim.holds_of_wide 7 Try.f7 rfl rfl rfl rfl rfl rfl rfl ⟨rfl, rfl, rfl, rfl, rfl⟩ rfl rfl rfl rfl rfl (by kernel_rfl) Try.func7 (by kernel_rfl)
    (of_decide_eq_true (by kernel_rfl)) (by unfold Func.isWrapper; rw [if_neg (of_decide_eq_false (by kernel_rfl))]; exact ⟨rfl, rfl⟩)
    (fun os started H enc _ => ticketRuns_lifted os started H enc)

#print axioms ticketRuns_holds
end Go.Proofs.Ytbohhabnejmemaa
