/- The law TicketServes: for every input the call returns true: of any number who want a lock each comes to hold it, in order; the version is odd just as long as it is held. No condition. -/
import Derived.Test.YtbohhabnejmemaaTicketTwice
import Derived.Maps.OwnOps
import Derived.Maps.OwnSet
namespace Go.Proofs.Ytbohhabnejmemaa
open Go.RowKit Go.ChangeShapes Go.WideShapes Go.Maps

/-- Block b is a map that says of each key below 100 whether it is in S. -/
def BMap (w : World) (b n : Nat) (S : Int → Bool) : Prop :=
  ∃ D : DataW Unit, w.ownsMap Try.prog 26 (plainElem Try.prog 4) b n D ∧ ∀ i : Int, 0 ≤ i → i < 100 → D.atKey (.int .u64 i) (.lit (.bool false)) = .lit (.bool (S i))

theorem isKeyU (i : Int) : WideAt.IsKeyLit (.int .u64 i) := by simp [WideAt.IsKeyLit]
theorem BMap.made (w : World) : BMap (w.alloc (.map #[] 0)) w.heap.size 0 (fun _ => false) := ⟨.map [], World.ownsMap_made _ _ _ _, fun _ _ _ => rfl⟩
theorem BMap.lt {w : World} {b n : Nat} {S : Int → Bool} (h : BMap w b n S) : b < w.heap.size := by obtain ⟨D, h1, _⟩ := h; exact h1.lt
theorem BMap.grown {w w' : World} {b n : Nat} {S : Int → Bool} {row : Option Nat} (h : BMap w b n S) (hg : w.grownBy w' row) (hne : some b ≠ row) : BMap w' b n S := by
  obtain ⟨D, h1, h2⟩ := h
  exact ⟨D, h1.kept hg hne, h2⟩
theorem BMap.at_block {w w' : World} {b n : Nat} {S : Int → Bool} (h : BMap w b n S) (he : w'.heap[b]? = w.heap[b]?) : BMap w' b n S := by
  obtain ⟨D, ⟨es, clock, hb, rest⟩, h2⟩ := h
  exact ⟨D, ⟨es, clock, he.trans hb, rest⟩, h2⟩

theorem zero4 (w : World) : (zeroValue 4).run Try.prog w = .ok (.bool false) w := by kernel_rfl

theorem plainElem_bool_inv {v : Value} {z : DataW Unit × List MemPlace} {x : Bool} (h : plainElem Try.prog 4 v = some z) (hz : z.1 = .lit (.bool x)) : v = .bool x := by
  unfold plainElem at h
  rw [Try.underlying4] at h
  split at h <;> simp_all
  all_goals (obtain ⟨rfl⟩ := h; simp_all)

theorem wpList_blook {w : World} {ops : Array Oper} {rest : List Oper} {o : Oper} {a : Act} {Q : Exit → Act → World → Prop} (hg : o.guard = none) (m x : Operand)
    (hop : o.op = Op.lookup 50 m x false) {b n : Nat} {S : Int → Bool} (hm : a.eval m = .map (some b)) (hC : BMap w b n S) {k : Int} (hk0 : 0 ≤ k) (hk : k < 100) (hx : a.eval x = .int .u64 k) {v : Bool} (hv : S k = v)
    (h : wpList Try.prog ops Q rest (a.put o.dst (.bool v)) w) : wpList Try.prog ops Q (o :: rest) a w := by
  obtain ⟨D, h1, h2⟩ := hC
  obtain ⟨v', ps, hrun, hv'⟩ := h1.lookup (key := .int .u64 k) (kl := .int .u64 k) (int_keyed Try.underlying26) Try.underlying50 (zero4 _) (plainElem_bool Try.underlying4 false) (keyOf_int_mk Try.underlying26 (WalkArith.wf_u64 (by omega)))
  have e := plainElem_bool_inv hv' (by show D.atKey _ _ = _; exact h2 k hk0 hk)
  subst e
  refine wpList_plain hg fun K' hK' => ?_
  unfold Oper.wp
  simp [execOp, hop, hm, hx, hrun, Result.andThen]
  rw [hv]
  exact hK' _ _ h

theorem wpList_bput {w : World} {ops : Array Oper} {rest : List Oper} {o : Oper} {a : Act} {Q : Exit → Act → World → Prop} (hg : o.guard = none) (m x v : Operand)
    (hop : o.op = Op.mapUpdate 50 m x v) {b n : Nat} {S : Int → Bool} (hm : a.eval m = .map (some b)) (hC : BMap w b n S) {k : Int} (hk0 : 0 ≤ k) (hk : k < 100) (hn : n ≤ 1000000) (hx : a.eval x = .int .u64 k) (hv : a.eval v = .bool true)
    (h : ∀ w', BMap w' b (n + 1) (fun i => i == k || S i) → w.grownBy w' (some b) → wpList Try.prog ops Q rest (a.put o.dst undef) w') : wpList Try.prog ops Q (o :: rest) a w := by
  obtain ⟨D, h1, h2⟩ := hC
  refine wpList_mapUpdate_own _ hg m x v 50 hop 26 4 (int_keyed Try.underlying26) Try.underlying50 _ b n D hm h1 (by unfold maxLen; omega) _ _ _ hx hv (keyOf_int_mk Try.underlying26 (WalkArith.wf_u64 (by omega))) _ []
    (plainElem_bool Try.underlying4 true) ?_
  intro w1 ho hg1
  refine h w1 ⟨_, ho, fun i hi0 hi => ?_⟩ hg1
  by_cases e : i = k
  · subst e; rw [atKey_put_same (h1.isMap) (isKeyU _)]; simp
  · rw [atKey_put_other (by simp; exact e), h2 i hi0 hi]; simp [e]


/-- 1, .., n. -/
def ids (n : Nat) : List Int := (List.range n).map fun (i : Nat) => ((i : Int) + 1)
theorem ids_succ (n : Nat) : ids (n + 1) = ids n ++ [(n : Int) + 1] := by simp [ids, List.range_succ]
theorem ids_len (n : Nat) : (ids n).length = n := by simp [ids]
theorem ids_bd (n : Nat) : ∀ x ∈ ids n, 1 ≤ x ∧ x ≤ n := by
  intro x hx
  simp only [ids, List.mem_map, List.mem_range] at hx
  obtain ⟨i, hi, rfl⟩ := hx
  omega
theorem ids_nodup (n : Nat) : (ids n).Nodup := by
  induction n with
  | zero => simp [ids]
  | succ n ih =>
    rw [ids_succ, List.nodup_append]
    refine ⟨ih, by simp, fun a ha b hb e => ?_⟩
    have := ids_bd n a ha
    simp at hb
    omega
/-- Those of 1, .., n that are not gone. -/
def rem_ (n : Nat) (S : Int → Bool) : List Int := (ids n).filter fun x => !S x
theorem rem_succ (n : Nat) (S : Int → Bool) : rem_ (n + 1) S = rem_ n S ++ (if S ((n : Int) + 1) then [] else [(n : Int) + 1]) := by
  unfold rem_
  rw [ids_succ, List.filter_append]
  cases h : S ((n : Int) + 1) <;> simp [h]
theorem rem_none (n : Nat) : rem_ n (fun _ => false) = ids n := by simp [rem_]
theorem rem_leave (n : Nat) (S : Int → Bool) (id : Int) : leaveL (rem_ n S) id = rem_ n (fun i => i == id || S i) := by
  unfold leaveL rem_
  rw [List.Nodup.erase_eq_filter ((ids_nodup n).filter _), List.filter_filter]
  congr 1
  funext x
  by_cases h : x = id
  · simp [h]
  · have : (x == id) = false := by simp [h]
    simp [bne, this]
theorem rem_len (n : Nat) (S : Int → Bool) : (rem_ n S).length ≤ n := by
  have := List.length_filter_le (fun x => !S x) (ids n)
  rwa [ids_len] at this
theorem rem_bd (n : Nat) (S : Int → Bool) : ∀ x ∈ rem_ n S, 1 ≤ x ∧ x ≤ n := fun x hx => ids_bd n x (List.mem_filter.1 hx).1

theorem join_ids (n : Nat) : joinL (ids n) ((n : Int) + 1) = ids (n + 1) := by
  unfold joinL
  rw [if_neg, ids_succ]
  rintro (h | h)
  · omega
  · have := ids_bd n _ h; omega
theorem join_idsV (n : Nat) (v : Int) (h : v = if n = 0 then 0 else 1) : joinV (ids n) ((n : Int) + 1) v = 1 := by
  unfold joinV
  rw [if_neg]
  · subst h
    rcases Nat.eq_zero_or_pos n with rfl | hn
    · simp [ids]
    · have : ids n ≠ [] := by intro e; have := ids_len n; rw [e] at this; simp at this; omega
      rw [if_neg this, if_neg (by omega)]
  · rintro (h | h)
    · omega
    · have := ids_bd n _ h; omega

/-- The version is odd just as long as the lock is held. -/
def Odd_ (q : List Int) (ver : Int) : Prop := ver % 2 = if q = [] then 0 else 1
theorem odd_leave (q : List Int) (id ver : Int) (h : Odd_ q ver) : Odd_ (leaveL q id) (leaveV q id ver) := by
  unfold Odd_ at *
  unfold leaveV leaveL
  by_cases hin : id ∈ q
  · rw [if_pos hin]
    have hne : q ≠ [] := by rintro rfl; simp at hin
    rw [if_neg hne] at h
    have hl := List.length_erase_of_mem hin
    have hpos := List.length_pos_iff.2 hne
    by_cases h0 : q.idxOf id = 0
    · rw [if_pos h0]
      by_cases h1 : 1 < q.length
      · rw [if_pos h1, if_neg (by intro e; rw [e] at hl; simp at hl; omega)]
        omega
      · rw [if_neg h1, if_pos (List.eq_nil_of_length_eq_zero (by omega))]
        omega
    · rw [if_neg h0, if_neg]
      · exact h
      · intro e
        rw [e] at hl
        simp at hl
        have := List.idxOf_lt_length_of_mem hin
        omega
  · rw [if_neg hin, List.erase_of_not_mem hin]
    exact h


/-- The lock, the map of those that are gone, and the list of those that are awaited. -/
def LMW (w : World) (g bm : Nat) (q : List Int) (ver : Int) (S : Int → Bool) (n : Nat) (v : Value) (xs : List Int) (wr : World) : Prop :=
  ∃ qb, LockAt wr w.heap.size g q ver qb ∧ BMap wr bm n S ∧ wr.ownsRow w.heap.size 26 1 v xs.length (u64s xs) ∧ (∀ x, v.ownBlock = some x → qb ≠ some x) ∧ w.heap.size ≤ g ∧ w.heap.size ≤ bm ∧ Below w.heap.size w wr

theorem bmap_ne {w : World} {b n x : Nat} {S : Int → Bool} {t : TypeId} {cs : Array Value} (h : BMap w b n S) (hx : Blk w x t cs) : b ≠ x := by
  rintro rfl
  obtain ⟨D, ⟨es, clock, hb, _⟩, _⟩ := h
  unfold Blk at hx
  rw [hb] at hx
  cases hx

theorem row_kept {w w' : World} {B g : Nat} {qb : Option Nat} {v : Value} {m : Nat} {xs : List Value} {cs : Array Value} (h : w.ownsRow B 26 1 v m xs) (hk : LKept w w' g qb) (hg : Blk w g 45 cs) (hq : ∀ x, v.ownBlock = some x → qb ≠ some x) : w'.ownsRow B 26 1 v m xs := by
  refine ⟨h.1, ?_⟩
  rcases h.2 with hn | ⟨g', cap, cur, rfl, hB, hh, rest⟩
  · exact .inl hn
  · refine .inr ⟨g', cap, cur, rfl, hB, ?_, rest⟩
    exact (hk.block g' (Blk.lt hh) (blk_ne (t := 26) (t' := 45) hh hg (by decide)) (fun e => hq g' rfl e.symm)).trans hh
theorem own_row_blk {w : World} {B m x : Nat} {v : Value} {xs : List Value} (h : w.ownsRow B 26 1 v m xs) (hx : v.ownBlock = some x) : B ≤ x ∧ ∃ cs, Blk w x 26 cs := by
  rcases h.2 with ⟨rfl, _⟩ | ⟨g', cap, cur, rfl, hB, hh, _⟩
  · cases hx
  · cases hx; exact ⟨hB, _, hh⟩

section
variable {w wr : World} {g bm n : Nat} {q : List Int} {ver : Int} {S : Int → Bool} {v : Value} {xs : List Int}
theorem LMW.bl (h : LMW w g bm q ver S n v xs wr) : Below w.heap.size w wr := by obtain ⟨qb, h1, h2, h3, h4, h5, h6, h7⟩ := h; exact h7

theorem lmw_join (h : LMW w g bm q ver S n v xs wr) (id : Int) (hv : 0 ≤ ver) (hv' : ver ≤ 1000000000) (hq : q.length ≤ 1000000) :
    Calls Try.prog 20 #[.pointer (some ⟨g, 0, none⟩), .int .u64 id] wr fun e w' => e = .returned (.tuple #[]) ∧ LMW w g bm (joinL q id) (joinV q id ver) S n v xs w' := by
  obtain ⟨qb, h1, h2, h3, h4, h5, h6, h7⟩ := h
  refine (join_any h1 id hv hv' hq h7.size).mono ?_
  rintro e w' ⟨rfl, qb', l1, k1, hn⟩
  obtain ⟨cs, hb⟩ := h1.blk
  refine ⟨rfl, qb', l1, h2.at_block (k1.block bm h2.lt (bmap_ne h2 hb) (fun e => ?_)), row_kept h3 k1 hb h4, fun x hx e => ?_, h5, h6, h7.trans (k1.below h5 (fun x hx => (h1.row hx).1) h7.size)⟩
  · obtain ⟨_, cs', hb'⟩ := h1.row e.symm
    exact bmap_ne h2 hb' rfl
  · rcases hn with rfl | ⟨y, rfl, hy⟩
    · exact h4 x hx e
    · cases e
      obtain ⟨_, cs', hb'⟩ := own_row_blk h3 hx
      have := hb'.lt
      omega

theorem lmw_leave (h : LMW w g bm q ver S n v xs wr) (id : Int) (hv : 0 ≤ ver) (hv' : ver ≤ 1000000000) (hq : q.length ≤ 1000000) :
    Calls Try.prog 21 #[.pointer (some ⟨g, 0, none⟩), .int .u64 id] wr fun e w' => e = .returned (.tuple #[]) ∧ LMW w g bm (leaveL q id) (leaveV q id ver) S n v xs w' := by
  obtain ⟨qb, h1, h2, h3, h4, h5, h6, h7⟩ := h
  refine (leave_any h1 id hv hv' hq).mono ?_
  rintro e w' ⟨rfl, l1, k1⟩
  obtain ⟨cs, hb⟩ := h1.blk
  refine ⟨rfl, qb, l1, h2.at_block (k1.block bm h2.lt (bmap_ne h2 hb) (fun e => ?_)), row_kept h3 k1 hb h4, h4, h5, h6, h7.trans (k1.below h5 (fun x hx => (h1.row hx).1) h7.size)⟩
  obtain ⟨_, cs', hb'⟩ := h1.row e.symm
  exact bmap_ne h2 hb' rfl

theorem lmw_holds (h : LMW w g bm q ver S n v xs wr) (id : Int) :
    Calls Try.prog 24 #[.pointer (some ⟨g, 0, none⟩), .int .u64 id] wr fun e w' => e = .returned (.bool (holdsL q id)) ∧ wr = w' := by
  obtain ⟨qb, h1, _⟩ := h
  exact holds_any h1 id
theorem lmw_version (h : LMW w g bm q ver S n v xs wr) :
    Calls Try.prog 22 #[.pointer (some ⟨g, 0, none⟩)] wr fun e w' => e = .returned (.int .u64 ver) ∧ wr = w' := by
  obtain ⟨qb, h1, _⟩ := h
  exact version_any h1
theorem lmw_busy (h : LMW w g bm q ver S n v xs wr) :
    Calls Try.prog 23 #[.pointer (some ⟨g, 0, none⟩)] wr fun e w' => e = .returned (.bool (ver % 2 == 1)) ∧ wr = w' := by
  obtain ⟨qb, h1, _⟩ := h
  exact busy_any h1
theorem lmw_queue (h : LMW w g bm q ver S n v xs wr) (hq : q.length ≤ 1000000) :
    Calls Try.prog 25 #[.pointer (some ⟨g, 0, none⟩)] wr fun e w' => ∃ v, e = .returned v ∧ w'.ownsRow wr.heap.size 26 1 v q.length (u64s q) ∧ Below wr.heap.size wr w' := by
  obtain ⟨qb, h1, _⟩ := h
  exact queue_any h1 hq
theorem LMW.put {w' : World} (h : LMW w g bm q ver S n v xs wr) {S' : Int → Bool} {n' : Nat} (hm : BMap w' bm n' S') (hg : wr.grownBy w' (some bm)) : LMW w g bm q ver S' n' v xs w' := by
  obtain ⟨qb, h1, h2, h3, h4, h5, h6, h7⟩ := h
  have h1' := h1
  obtain ⟨A, c, hb, ho, he⟩ := h1
  have hne : ∀ (y : Value) (m : Nat) (ys : List Value), wr.ownsRow w.heap.size 26 1 y m ys → y.ownBlock ≠ some bm := fun y m ys hy e => by
    obtain ⟨_, cs, hb'⟩ := own_row_blk hy e
    exact bmap_ne h2 hb' rfl
  exact ⟨qb, ⟨A, c, hb.grown hg (by simp; exact (bmap_ne h2 hb).symm), ho.kept hg (.inr (hne _ _ _ ho)), he⟩, hm, h3.kept hg (.inr (hne _ _ _ h3)), h4, h5, h6, below_of_only h7 hg h6 h7.size⟩
theorem LMW.want {w' : World} {v' : Value} {x : Int} (h : LMW w g bm q ver S n v xs wr) (ho : w'.ownsRow w.heap.size 26 1 v' (xs.length + 1) (u64s xs ++ [.int .u64 x])) (hg : wr.grownBy w' v.ownBlock)
    (ha : v'.ownBlock = v.ownBlock ∨ ∃ y, v'.ownBlock = some y ∧ wr.heap.size ≤ y) : LMW w g bm q ver S n v' (xs ++ [x]) w' := by
  obtain ⟨qb, h1, h2, h3, h4, h5, h6, h7⟩ := h
  have h1' := h1
  obtain ⟨A, c, hb, hr, he⟩ := h1
  refine ⟨qb, ⟨A, c, hb.grown hg (own_ne h3 hb (by decide)), hr.kept hg ?_, he⟩, h2.grown hg (fun e => ?_), by simpa [u64s] using ho, fun y hy e => ?_, h5, h6, h7.grown hg h7.size (fun k hk => (own_row_blk h3 hk).1)⟩
  · cases A with
    | none => exact .inl rfl
    | some a => exact .inr (fun e => h4 a.block e.symm he.symm)
  · obtain ⟨_, cs, hb'⟩ := own_row_blk h3 e.symm
    exact bmap_ne h2 hb' rfl
  · rcases ha with ha | ⟨z, ha, hz⟩
    · exact h4 y (by rw [← ha]; exact hy) e
    · rw [ha] at hy; cases hy
      obtain ⟨_, cs, hb'⟩ := h1'.row e
      have := hb'.lt
      omega
end


def J1 (w : World) (ga N : Nat) (vi : Value) (wr : World) : Prop :=
  ∃ (k : Nat) (ver : Int), k ≤ N ∧ vi = .int .i64 k ∧ ver = (if k = 0 then 0 else 1) ∧ LMW w ga (ga + 1) (ids k) ver (fun _ => false) 0 (.slice none 0 0) [] wr
def J2 (w : World) (ga N len : Nat) (vi : Value) (wr : World) : Prop :=
  ∃ (k : Nat) (ver : Int) (S : Int → Bool), k ≤ len ∧ vi = .int .i64 k ∧ 0 ≤ ver ∧ ver ≤ 1 + 2 * k ∧ Odd_ (rem_ N S) ver ∧ LMW w ga (ga + 1) (rem_ N S) ver S k (.slice none 0 0) [] wr
def J3 (w : World) (ga N m : Nat) (ver : Int) (S : Int → Bool) (vw vi : Value) (wr : World) : Prop :=
  ∃ (k : Nat), k ≤ N ∧ vi = .int .i64 k ∧ LMW w ga (ga + 1) (rem_ N S) ver S m vw (rem_ k S) wr
def J4 (w : World) (ga m : Nat) (S : Int → Bool) (vw : Value) (xs : List Int) (vi : Value) (wr : World) : Prop :=
  ∃ (k : Nat) (ver : Int), k ≤ xs.length ∧ vi = .int .i64 k ∧ 0 ≤ ver ∧ ver ≤ 1000 + 2 * k ∧ Odd_ (xs.drop k) ver ∧ LMW w ga (ga + 1) (xs.drop k) ver S m vw xs wr

set_option maxRecDepth 100000 in
set_option maxHeartbeats 3200000 in
theorem ticketServes_walk (A : Option Addr) (c : Nat) (l : List Int) (n : Int) (w : World) (h : IntsAt .i64 w w.heap.size A l) (hm : l.length ≤ 9223372036854775807) :
    Calls Try.prog 8 #[.int .i64 n, .slice A l.length c] w fun e w' => e = .returned (.bool true) ∧ Below w.heap.size w w' := by
  have r0 : -20 < n.tmod 20 := Int.lt_tmod_of_pos n (by omega)
  have r1 : n.tmod 20 < 20 := Int.tmod_lt_of_pos n (by omega)
  obtain ⟨N, hN⟩ : ∃ N : Nat, (n.tmod 20 + 20) % 20 = (N : Int) := ⟨((n.tmod 20 + 20) % 20).toNat, by omega⟩
  have hN1 : N < 20 := by omega
  have hmm := @run_makeMap Try.prog
  by_cases hbig : 50 < l.length
  · go_enter Try.func8, Try.ntmps8
    go_wp2_with (go_at_call 19; refine (fit11 _).mono ?_; rintro e w1 ⟨rfl, hb1⟩)
    go_ret
    exact ⟨rfl, hb1⟩
  go_enter Try.func8, Try.ntmps8
  go_wp2_with (go_at_call 19; refine (fit11 _).mono ?_; rintro e w1 ⟨rfl, hb1⟩)
  have b2 := hb1.alloc hb1.size (.cells #[.slice none 0 0, .int .u64 0] 45)
  have b3 := b2.alloc b2.size (.map #[] 0)
  have ht : LMW w w1.heap.size (w1.heap.size + 1) (ids 0) 0 (fun _ => false) 0 (.slice none 0 0) [] ((w1.alloc (.cells #[.slice none 0 0, .int .u64 0] 45)).alloc (.map #[] 0)) := by
    refine ⟨none, (LockAt.new w1 _).below ((Below.refl _ _).alloc (Nat.le_refl _) _), ?_, World.ownsRow_nil _ _ _ _, by simp, hb1.size, Nat.le_trans hb1.size (Nat.le_succ _), b3⟩
    have := BMap.made (w1.alloc (.cells #[.slice none 0 0, .int .u64 0] 45))
    rwa [World.size_alloc] at this
  generalize (w1.alloc _).alloc _ = w2 at *
  generalize w1.heap.size = ga at *
  clear hb1 b2 b3 r0 r1
  simp only [hN]
  clear hN
  -- all come
  go_loopw [26] (fun vi wr => J1 w ga N vi wr) (fun i _ => N - (intOf i).toNat)
  case atStart => exact ⟨0, 0, Nat.zero_le _, rfl, rfl, ht⟩
  case round =>
    obtain ⟨k, ver, hk, rfl, hver, hL⟩ := hrel
    clear ht
    have hv0 : 0 ≤ ver ∧ ver ≤ 1 := by subst hver; split <;> omega
    have HV := Lib.hid hver
    clear hver
    by_cases hlt : k < N
    · have hil := ids_len k
      have HIL := Lib.hid hil
      clear hil
      go_wp2_with fail
      refine (lmw_join hL ((k : Int) + 1) hv0.1 (by omega) (by rw [HIL.out]; omega)).mono ?_
      rintro e w3 ⟨rfl, l3⟩
      rw [join_ids, join_idsV k ver HV.out] at l3
      clear hL
      go_wp2_with fail
      go_roundw
      case rel => exact ⟨k + 1, 1, by omega, by go_num, by simp, l3⟩
      case measure => simp [intOf]; omega
    · obtain rfl : k = N := by omega
      have ho : Hid (Odd_ (ids k) ver) := by
        show ver % 2 = _
        rw [HV.out]
        rcases Nat.eq_zero_or_pos k with rfl | hp
        · simp [ids]
        · have : ids k ≠ [] := by intro e; have := ids_len k; rw [e] at this; simp at this; omega
          rw [if_neg (by omega), if_neg this]; rfl
      clear HV hk
      rw [← rem_none] at hL ho
      go_wp2_with fail
      clear hlt
      -- some go
      go_loopw [36] (fun vi wr => J2 w ga k l.length vi wr) (fun i _ => l.length - (intOf i).toNat)
      case atStart => exact ⟨0, ver, _, Nat.zero_le _, rfl, hv0.1, by omega, ho.out, hL⟩
      case round =>
        clear hL ho hv0
        obtain ⟨j, ver, S, hj, rfl, hv0, hv1, hO, hL⟩ := hrel
        by_cases hlt : j < l.length
        · obtain ⟨b, off, rfl, hbB, hc⟩ := h (by omega)
          have HO := Lib.hid hO
          clear hO
          have ea := (hL.bl.cell (p := ⟨b, off + j, none⟩) hbB).trans (hc j hlt)
          clear hc
          generalize l[j] = x at *
          have q31 := i64_and31 x
          have x0 := Int.emod_nonneg x (show (32 : Int) ≠ 0 by omega)
          have x1 := Int.emod_lt_of_pos x (show (0 : Int) < 32 by omega)
          generalize x % 32 = y at *
          have HO' := Lib.hid (odd_leave _ (y + 1) ver HO.out)
          have HLL : Hid ((rem_ k S).length ≤ k) := rem_len k S
          have HRL := Lib.hid (rem_leave k S (y + 1))
          have hlv := leaveV_bd (rem_ k S) (y + 1) ver
          clear HO
          go_wp2_with (at_mapUpdate; refine wpList_bput rfl _ _ _ rfl rfl (by obtain ⟨_, _, hb, _⟩ := hL; exact hb) (by omega) (by omega) (by omega) rfl rfl ?_; intro w3 hb3 hg3)
          have l3 := hL.put hb3 hg3
          clear hL
          refine (lmw_leave l3 (y + 1) hv0 (by omega) (by have := HLL.out; omega)).mono ?_
          rintro e w4 ⟨rfl, l4⟩
          clear l3 hb3 hg3
          go_wp2_with fail
          go_roundw
          case rel => exact ⟨j + 1, leaveV (rem_ k S) (y + 1) ver, _, by omega, by go_num, by omega, by omega, by rw [← HRL.out]; exact HO'.out, by rw [← HRL.out]; exact l4⟩
          case measure => simp [intOf]; omega
        · have HO := Lib.hid hO
          clear hO h
          have hvb : ver ≤ 101 := by omega
          go_wp2_with fail
          clear hlt hv1
          obtain ⟨i0, hi0, hz0, hz1, hz2⟩ := info_parts Try.info26
          -- who is awaited
          go_loopw [6, 50] (fun vw vi wr => J3 w ga k j ver S vw vi wr) (fun _ i _ => k - (intOf i).toNat)
          case atStart => exact ⟨0, Nat.zero_le _, rfl, hL⟩
          case round =>
            obtain ⟨i, hi, rfl, hLi⟩ := hrel
            clear hL
            by_cases hlt : i < k
            · have hB : BMap wr (ga + 1) j S := by obtain ⟨_, _, hb, _⟩ := hLi; exact hb
              have HR := Lib.hid (rem_succ i S)
              cases hS : S ((i : Int) + 1) with
              | true =>
                have HS := Lib.hid hS
                clear hS
                go_wp2_with (at_lookup; refine wpList_blook rfl _ _ rfl rfl hB (by omega) (by omega) rfl HS.out ?_)
                go_roundw
                case rel => exact ⟨i + 1, by omega, by go_num, by rw [HR.out, HS.out]; simpa using hLi⟩
                case measure => simp [intOf]; omega
              | false =>
                have HS := Lib.hid hS
                clear hS
                have hown : (wr.alloc (.cells #[.int .u64 ((i : Int) + 1)] 26)).ownsRow w.heap.size 26 1 u6 (rem_ i S).length (u64s (rem_ i S)) := by obtain ⟨_, _, _, ho, _⟩ := hLi; exact ho.alloc _
                have hrl := rem_len i S
                have HRL := Lib.hid hrl
                clear hrl
                have hcn := Lib.hid (cell_one_new wr (.int .u64 ((i : Int) + 1)) 26)
                have hbl : w.heap.size ≤ wr.heap.size := hLi.bl.size
                go_wp2_with (first
                  | (at_lookup; refine wpList_blook rfl _ _ rfl rfl hB (by omega) (by omega) rfl HS.out ?_)
                  | (at_builtin; refine wpList_append_own_at _ rfl _ _ 43 rfl w.heap.size 26 i0 _ 1 8 Try.underlying43 hi0 hz0 hz1 hz2 rfl (by decide) u6 _ _ rfl hown ⟨wr.heap.size, 0, none⟩ 1 1 [.int .u64 ((i : Int) + 1)] rfl rfl hcn.out (by intro u hu; simp at hu; subst hu; rfl) (by unfold maxLen; have := HRL.out; omega) (by have := HRL.out; omega) (by simp; omega) ?_; intro v1 w1 hown1 hg1 _ hat1))
                have hL1 := hLi.want (x := (i : Int) + 1) hown1 ((World.grownBy_alloc wr _ _).trans hg1) (by rcases hat1 with e | e; exact .inl e; exact .inr ⟨_, e, by simp⟩)
                go_roundw
                case rel => exact ⟨i + 1, by omega, by go_num, by rw [HR.out, HS.out]; simpa using hL1⟩
                case measure => simp [intOf]; omega
            · obtain rfl : i = k := by omega
              clear hi
              have hxl : (rem_ i S).length ≤ i := rem_len i S
              generalize rem_ i S = xs at *
              obtain ⟨A4, c4, rfl⟩ : ∃ A4 c4, u6 = .slice A4 xs.length c4 := by obtain ⟨_, _, _, ho, _⟩ := hLi; exact own_slice ho
              go_wp2_with fail
              clear hlt
              -- each comes to hold it
              go_loopw [68] (fun vi wr => J4 w ga j S (.slice A4 xs.length c4) xs vi wr) (fun i _ => xs.length - (intOf i).toNat)
              case atStart => exact ⟨0, ver, Nat.zero_le _, rfl, hv0, by omega, HO.out, hLi⟩
              case round =>
                obtain ⟨m, ver2, hm2, rfl, hw0, hw1, hO2, hL2⟩ := hrel
                clear hLi HO
                by_cases hlt : m < xs.length
                · have hin : IntsAt .u64 wr wr.heap.size A4 xs := by obtain ⟨_, _, _, ho, _⟩ := hL2; exact LockAt.ints ho
                  obtain ⟨b, off, rfl, _, hc⟩ := hin (by omega)
                  have ea := hc m hlt
                  clear hc
                  have hdr : xs.drop m = xs[m] :: xs.drop (m + 1) := List.drop_eq_getElem_cons hlt
                  have hho : holdsL (xs.drop m) xs[m] = true := by rw [hdr]; simp [holdsL]
                  have hlv : leaveL (xs.drop m) xs[m] = xs.drop (m + 1) := by unfold leaveL; rw [hdr, List.erase_cons_head]
                  have hod : ver2 % 2 = 1 := by unfold Odd_ at hO2; rw [hO2, if_neg (by rw [hdr]; exact List.cons_ne_nil _ _)]
                  have hb2 := leaveV_bd (xs.drop m) xs[m] ver2
                  have q1 := u64_and1 ver2
                  rw [hod] at q1
                  have HHO := Lib.hid hho
                  have HLV := Lib.hid hlv
                  have HO2 := Lib.hid (odd_leave _ xs[m] _ hO2)
                  have HLN : Hid ((xs.drop m).length ≤ 100) := by show _ ≤ _; simp; omega
                  clear hdr hho hlv hod hO2
                  go_wp2_with (first
                    | (go_at_call 24; refine (lmw_holds hL2 _).mono ?_; rintro e w' ⟨rfl, rfl⟩; rw [HHO.out])
                    | (go_at_call 22; refine (lmw_version hL2).mono ?_; rintro e w' ⟨rfl, rfl⟩)
                    | (go_at_call 21; refine (lmw_leave hL2 _ hw0 (by omega) (by have := HLN.out; omega)).mono ?_; rintro e w4 ⟨rfl, l4⟩))
                  go_roundw
                  case rel => exact ⟨m + 1, leaveV (xs.drop m) xs[m] ver2, by omega, by go_num, by omega, by omega, by rw [← HLV.out]; exact HO2.out, by rw [← HLV.out]; exact l4⟩
                  case measure => simp [intOf]; omega
                · obtain rfl : m = xs.length := by omega
                  have hev : ver2 % 2 = 0 := by unfold Odd_ at hO2; rw [hO2, if_pos (by simp)]
                  have q1 := u64_and1 ver2
                  rw [hev] at q1
                  have HB : Hid ((ver2 % 2 == 1) = false) := by show (_ == _) = _; rw [hev]; rfl
                  rw [List.drop_length] at hL2
                  clear hev hO2
                  go_wp2_with (first
                    | (go_at_call 23; refine (lmw_busy hL2).mono ?_; rintro e w' ⟨rfl, rfl⟩; rw [HB.out])
                    | (go_at_call 22; refine (lmw_version hL2).mono ?_; rintro e w' ⟨rfl, rfl⟩)
                    | (go_at_call 25; refine (lmw_queue hL2 (by simp)).mono ?_; rintro e w4 ⟨p, rfl, o4, b4⟩; obtain ⟨A5, c5, hp⟩ := own_slice o4; rw [hp]))
                  go_ret
                  exact ⟨rfl, hL2.bl.trans (b4.mono hL2.bl.size)⟩

set_option maxRecDepth 100000 in
theorem ticketServes_lifted (os : Os) (started : os.Started) (H : Type) (enc : TypeId × Value → H) :
    ReturnsInHanded {} Try.checked os 8 .any (Rows.ticketServesSpec.pre6 enc Try.prog Try.f8 Rows.ticketServesRow.domain false) (Rows.ticketServesSpec.post enc Try.prog Try.f8 false true false false) := by
  refine lifted_of (C := Try.checked) laidOut own started (by kernel_rfl) Try.func8 rfl Try.underlying4 (by kernel_rfl) rfl
    (fun ds hds => by match ds, hds with | [_, _], _ => rfl)
    (ChangeSpec.witness6 (enc := enc) (C := Try.checked) false ⟨#[], #[.int .i64 0, .slice none 0 0], []⟩ 8 (by kernel_rfl) (by kernel_rfl) (by kernel_rfl) (by kernel_rfl)) ?_
  intro W base args ds ps hval0 hA0 hlt
  have hval : ∀ (j : Nat) t v, Try.f8.params[j]? = some t → args[j]? = some v → Value.okWide Try.prog W .any base t v := hval0
  have hA : DataW.TrodAll enc Try.prog W 0 (fun _ => true) true Try.f8.params.toList args.toList ds ps := hA0
  rw [Try.params8] at hA hval
  obtain ⟨v0, vs0, d0, ds0, p0, q0, hargs, rfl, rfl, h0, r0⟩ := trodAll_cons hA
  obtain ⟨v1, vs1, d1, ds1, p1, q1, rfl, rfl, rfl, h1, r1⟩ := trodAll_cons r0
  obtain ⟨rfl, rfl, rfl⟩ := trodAll_nil r1
  obtain rfl : args = #[v0, v1] := by cases args; simp_all
  obtain ⟨x0, rfl, rfl, rfl, w0⟩ := open_int Try.underlying3 (hval 0 3 v0 rfl rfl) h0
  obtain ⟨A1, l1, c1, rfl, hm1, hi1, hw1⟩ := open_intsV Try.underlying22 Try.underlying3 (by kernel_rfl) (hval 1 22 v1 rfl rfl) h1 (fun x hx => hlt x (List.mem_append_right _ (List.mem_append_left _ hx)))
  exact ticketServes_walk A1 c1 l1 x0 W hi1 (by unfold maxLen at hm1; omega)

theorem ticketServes_holds : Rows.TicketServesSaid :=
  OpenClaim.holds_of_wide 8 Try.f8 rfl rfl rfl rfl rfl rfl rfl ⟨rfl, rfl, rfl, rfl, rfl⟩ rfl rfl rfl rfl rfl (by kernel_rfl) Try.func8 (by kernel_rfl)
    (of_decide_eq_true (by kernel_rfl)) (by unfold Func.isWrapper; rw [if_neg (of_decide_eq_false (by kernel_rfl))]; exact ⟨rfl, rfl⟩)
    (fun os started H enc _ => ticketServes_lifted os started H enc)

#print axioms ticketServes_holds
end Go.Proofs.Ytbohhabnejmemaa
