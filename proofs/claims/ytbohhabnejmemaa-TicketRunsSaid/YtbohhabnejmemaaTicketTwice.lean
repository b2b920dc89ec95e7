/- The law TicketTwice: for every input the call returns true: who wants a lock twice wants it once; who never wanted it takes nothing from those who do. No condition. -/
import Derived.Test.YtbohhabnejmemaaLock
namespace Go.Proofs.Ytbohhabnejmemaa
open Go.RowKit Go.ChangeShapes Go.WideShapes

set_option maxRecDepth 100000 in
set_option maxHeartbeats 1600000 in
theorem fit11 (w : World) : Calls Try.prog 19 #[] w fun e w' => e = .returned (.bool true) ∧ Below w.heap.size w w' := by
  have l0 := LockAt.new w w.heap.size
  have b0 := (Below.refl w.heap.size w).alloc (Nat.le_refl _) (.cells #[.slice none 0 0, .int .u64 0] 45)
  have z0 : w.heap.size ≤ (w.alloc (.cells #[.slice none 0 0, .int .u64 0] 45)).heap.size := b0.size
  go_enter Try.func19, Try.ntmps19
  go_wp2_with fail
  refine (join_any l0 1 (by omega) (by omega) (by simp) z0).mono ?_
  rintro e w1 ⟨rfl, qb, l1, k1, h1⟩
  have b1 := b0.trans (k1.below (Nat.le_refl _) (by simp) z0)
  clear l0 k1 b0
  have l1 : LockAt w1 w.heap.size w.heap.size [1] 1 qb := l1
  have hq1 : ∀ x, qb = some x → w.heap.size ≤ x := by
    intro x hx
    rcases h1 with rfl | ⟨k, rfl, h⟩
    · cases hx
    · cases hx; omega
  clear h1
  go_wp2_with fail
  refine (join_any l1 2 (by omega) (by omega) (by simp) b1.size).mono ?_
  rintro e w2 ⟨rfl, qc, l2, k2, h2⟩
  have b2 := b1.trans (k2.below (Nat.le_refl _) hq1 b1.size)
  have l2 : LockAt w2 w.heap.size w.heap.size [1, 2] 1 qc := l2
  have hq2 : ∀ x, qc = some x → w.heap.size ≤ x := by
    intro x hx
    rcases h2 with rfl | ⟨k, rfl, h⟩
    · exact hq1 x hx
    · cases hx; have := b1.size; omega
  clear h2 hq1 l1 k2 b1
  go_wp2_with fail
  refine (leave_any l2 1 (by omega) (by omega) (by simp)).mono ?_
  rintro e w3 ⟨rfl, l3, k3⟩
  have b3 := b2.trans (k3.below (Nat.le_refl _) hq2 b2.size)
  have l3 : LockAt w3 w.heap.size w.heap.size [2] 3 qc := l3
  clear l2 k3 b2 hq2
  go_wp2_with (first
    | (go_at_call 24; refine (holds_any l3 _).mono ?_; rintro e w' ⟨rfl, rfl⟩)
    | (go_at_call 22; refine (version_any l3).mono ?_; rintro e w' ⟨rfl, rfl⟩)
    | (go_at_call 23; refine (busy_any l3).mono ?_; rintro e w' ⟨rfl, rfl⟩))
  go_ret
  exact ⟨rfl, b3⟩

theorem LockAt.blk {w : World} {B g : Nat} {q : List Int} {ver : Int} {qb : Option Nat} (h : LockAt w B g q ver qb) : ∃ cs, Blk w g 45 cs := by obtain ⟨A, c, hb, _⟩ := h; exact ⟨_, hb⟩
theorem LockAt.row {w : World} {B g : Nat} {q : List Int} {ver : Int} {qb : Option Nat} (h : LockAt w B g q ver qb) {x : Nat} (hx : qb = some x) : B ≤ x ∧ ∃ cs, Blk w x 26 cs := by
  obtain ⟨A, c, hb, ho, hq⟩ := h
  rcases ho.2 with ⟨h0, _⟩ | ⟨g', cap, cur, hv, hB, hh, _⟩
  · injection h0 with h0; subst h0; rw [← hq] at hx; cases hx
  · injection hv with hv; subst hv; rw [← hq] at hx; cases hx; exact ⟨hB, _, hh⟩
theorem blk_ne {w : World} {g g' : Nat} {cs cs' : Array Value} {t t' : TypeId} (h : Blk w g t cs) (h' : Blk w g' t' cs') (hne : t ≠ t') : g ≠ g' := by
  rintro rfl
  unfold Blk at h h'
  rw [h] at h'
  injection h' with h'
  injection h' with _ ht
  exact hne ht
theorem LockAt.kept {w w' : World} {B ga gb : Nat} {q : List Int} {ver : Int} {qa qb : Option Nat} (h : LockAt w B gb q ver qb) (hk : LKept w w' ga qa) (hne : gb ≠ ga) (ha : ∃ cs, Blk w ga 45 cs) (hqa : ∀ x, qa = some x → ∃ cs, Blk w x 26 cs) (hq : ∀ x, qa = some x → qb ≠ some x) : LockAt w' B gb q ver qb := by
  have h0 := h
  obtain ⟨A, c, hb, ho, he⟩ := h
  obtain ⟨csa, ha⟩ := ha
  refine ⟨A, c, (hk.block gb hb.lt hne (fun e => ?_)).trans hb, ?_, he⟩
  · obtain ⟨cs, h1⟩ := hqa gb e.symm
    exact blk_ne hb h1 (by decide) rfl
  · refine ⟨ho.1, ?_⟩
    rcases ho.2 with hn | ⟨g', cap, cur, hv, hB, hh, rest⟩
    · exact .inl hn
    · refine .inr ⟨g', cap, cur, hv, hB, ?_, rest⟩
      have hx : qb = some g' := by rw [← he]; injection hv with hv; subst hv; rfl
      refine (hk.block g' (Blk.lt hh) (blk_ne (t := 26) (t' := 45) hh ha (by decide)) (fun e => hq g' e.symm hx)).trans hh
theorem LockAt.below {w w' : World} {B g : Nat} {q : List Int} {ver : Int} {qb : Option Nat} (h : LockAt w B g q ver qb) (hb : Below w.heap.size w w') : LockAt w' B g q ver qb := by
  obtain ⟨A, c, hk, ho, he⟩ := h
  exact ⟨A, c, hk.below hb hk.lt, ho.kept (only_of_below hb none) (by cases A <;> simp [Value.ownBlock]), he⟩

/-- Two locks that share nothing. -/
def Two (w : World) (ga gb : Nat) (q1 : List Int) (v1 : Int) (q2 : List Int) (v2 : Int) (wr : World) : Prop :=
  ∃ qa qb, LockAt wr w.heap.size ga q1 v1 qa ∧ LockAt wr w.heap.size gb q2 v2 qb ∧ (∀ x, qa = some x → qb ≠ some x) ∧ ga ≠ gb ∧ w.heap.size ≤ ga ∧ w.heap.size ≤ gb ∧ Below w.heap.size w wr

section
variable {w wr : World} {ga gb : Nat} {q1 q2 : List Int} {v1 v2 : Int}
theorem Two.symm (h : Two w ga gb q1 v1 q2 v2 wr) : Two w gb ga q2 v2 q1 v1 wr := by
  obtain ⟨qa, qb, h1, h2, h3, h4, h5, h6, h7⟩ := h
  exact ⟨qb, qa, h2, h1, fun x hx e => h3 x e hx, h4.symm, h6, h5, h7⟩
theorem Two.bl (h : Two w ga gb q1 v1 q2 v2 wr) : Below w.heap.size w wr := by obtain ⟨qa, qb, h1, h2, h3, h4, h5, h6, h7⟩ := h; exact h7
theorem Two.below {w' : World} (h : Two w ga gb q1 v1 q2 v2 wr) (hb : Below wr.heap.size wr w') : Two w ga gb q1 v1 q2 v2 w' := by
  obtain ⟨qa, qb, h1, h2, h3, h4, h5, h6, h7⟩ := h
  exact ⟨qa, qb, h1.below hb, h2.below hb, h3, h4, h5, h6, h7.trans (hb.mono h7.size)⟩

theorem two_join (h : Two w ga gb q1 v1 q2 v2 wr) (id : Int) (hv : 0 ≤ v1) (hv' : v1 ≤ 1000000000) (hq : q1.length ≤ 1000000) :
    Calls Try.prog 20 #[.pointer (some ⟨ga, 0, none⟩), .int .u64 id] wr fun e w' => e = .returned (.tuple #[]) ∧ Two w ga gb (joinL q1 id) (joinV q1 id v1) q2 v2 w' := by
  obtain ⟨qa, qb, h1, h2, h3, h4, h5, h6, h7⟩ := h
  refine (join_any h1 id hv hv' hq h7.size).mono ?_
  rintro e w' ⟨rfl, qa', l1, k1, hn⟩
  refine ⟨rfl, qa', qb, l1, h2.kept k1 h4.symm h1.blk (fun x hx => (h1.row hx).2) h3, fun x hx e => ?_, h4, h5, h6, h7.trans (k1.below h5 (fun x hx => (h1.row hx).1) h7.size)⟩
  rcases hn with rfl | ⟨y, rfl, hy⟩
  · exact h3 x hx e
  · cases hx
    obtain ⟨_, cs, hb⟩ := h2.row e
    have := hb.lt
    omega

theorem two_leave (h : Two w ga gb q1 v1 q2 v2 wr) (id : Int) (hv : 0 ≤ v1) (hv' : v1 ≤ 1000000000) (hq : q1.length ≤ 1000000) :
    Calls Try.prog 21 #[.pointer (some ⟨ga, 0, none⟩), .int .u64 id] wr fun e w' => e = .returned (.tuple #[]) ∧ Two w ga gb (leaveL q1 id) (leaveV q1 id v1) q2 v2 w' := by
  obtain ⟨qa, qb, h1, h2, h3, h4, h5, h6, h7⟩ := h
  refine (leave_any h1 id hv hv' hq).mono ?_
  rintro e w' ⟨rfl, l1, k1⟩
  exact ⟨rfl, qa, qb, l1, h2.kept k1 h4.symm h1.blk (fun x hx => (h1.row hx).2) h3, h3, h4, h5, h6, h7.trans (k1.below h5 (fun x hx => (h1.row hx).1) h7.size)⟩

theorem two_queue (h : Two w ga gb q1 v1 q2 v2 wr) (hq : q1.length ≤ 1000000) :
    Calls Try.prog 25 #[.pointer (some ⟨ga, 0, none⟩)] wr fun e w' => ∃ v, e = .returned v ∧ w'.ownsRow wr.heap.size 26 1 v q1.length (u64s q1) ∧ Below wr.heap.size wr w' := by
  obtain ⟨qa, qb, h1, _⟩ := h
  exact queue_any h1 hq
theorem two_version (h : Two w ga gb q1 v1 q2 v2 wr) :
    Calls Try.prog 22 #[.pointer (some ⟨ga, 0, none⟩)] wr fun e w' => e = .returned (.int .u64 v1) ∧ wr = w' := by
  obtain ⟨qa, qb, h1, _⟩ := h
  exact version_any h1
theorem two_holds (h : Two w ga gb q1 v1 q2 v2 wr) (id : Int) :
    Calls Try.prog 24 #[.pointer (some ⟨ga, 0, none⟩), .int .u64 id] wr fun e w' => e = .returned (.bool (holdsL q1 id)) ∧ wr = w' := by
  obtain ⟨qa, qb, h1, _⟩ := h
  exact holds_any h1 id
end

/-! ### the plain law -/
theorem join_twice (q : List Int) (id ver : Int) : joinL (joinL q id) id = joinL q id ∧ joinV (joinL q id) id (joinV q id ver) = joinV q id ver := by
  have h : id = 0 ∨ id ∈ joinL q id := by
    unfold joinL
    split
    · assumption
    · right; simp
  constructor
  · show (if id = 0 ∨ id ∈ joinL q id then _ else _) = _
    rw [if_pos h]
  · show (if id = 0 ∨ id ∈ joinL q id then _ else _) = _
    rw [if_pos h]
theorem joinL_len (q : List Int) (id : Int) : (joinL q id).length ≤ q.length + 1 := by unfold joinL; split <;> simp
theorem joinV_bd (q : List Int) (id ver : Int) : ver ≤ joinV q id ver ∧ joinV q id ver ≤ ver + 1 := by
  unfold joinV
  split
  · omega
  · split <;> omega
theorem leaveL_len (q : List Int) (id : Int) : (leaveL q id).length ≤ q.length := List.length_erase_le
theorem leaveV_bd (q : List Int) (id ver : Int) : ver ≤ leaveV q id ver ∧ leaveV q id ver ≤ ver + 2 := by
  unfold leaveV
  split
  · split
    · split <;> omega
    · omega
  · omega
theorem joinL_nz (q : List Int) (id : Int) (h : ∀ x ∈ q, x ≠ 0) : ∀ x ∈ joinL q id, x ≠ 0 := by
  unfold joinL
  split
  · exact h
  · rename_i hn
    intro x hx
    rcases List.mem_append.1 hx with hx | hx
    · exact h x hx
    · simp at hx; subst hx; exact fun e => hn (.inl e)
theorem leaveL_nz (q : List Int) (id : Int) (h : ∀ x ∈ q, x ≠ 0) : ∀ x ∈ leaveL q id, x ≠ 0 := fun x hx => h x (List.mem_of_mem_erase hx)
theorem holds_zero (q : List Int) (h : ∀ x ∈ q, x ≠ 0) : holdsL q 0 = false := by
  cases q with
  | nil => rfl
  | cons x q => simp [holdsL, h x (by simp)]

theorem own_slice {w : World} {B e size n : Nat} {v : Value} {xs : List Value} (h : w.ownsRow B e size v n xs) : ∃ A c, v = .slice A n c := by
  rcases h.2 with ⟨rfl, rfl⟩ | ⟨g, cap, cur, rfl, _⟩
  · exact ⟨none, 0, rfl⟩
  · exact ⟨_, _, rfl⟩

def TRel (w : World) (ga gb len : Nat) (vi : Value) (wr : World) : Prop :=
  ∃ (k : Nat) (q : List Int) (ver : Int), k ≤ len ∧ vi = .int .i64 k ∧ Two w ga gb q ver q ver wr ∧ 0 ≤ ver ∧ ver ≤ 3 * k ∧ q.length ≤ k ∧ ∀ x ∈ q, x ≠ 0

set_option maxRecDepth 100000 in
set_option maxHeartbeats 3200000 in
theorem ticketTwice_walk (A : Option Addr) (c : Nat) (l : List Int) (o : Int) (w : World) (h : IntsAt .u64 w w.heap.size A l) (hm : l.length ≤ 9223372036854775807) :
    Calls Try.prog 9 #[.slice A l.length c, .int .u64 o] w fun e w' => e = .returned (.bool true) ∧ Below w.heap.size w w' := by
  by_cases hbig : 60 < l.length
  · go_enter Try.func9, Try.ntmps9
    go_wp2_with (go_at_call 19; refine (fit11 _).mono ?_; rintro e w1 ⟨rfl, hb1⟩)
    go_ret
    exact ⟨rfl, hb1⟩
  go_enter Try.func9, Try.ntmps9
  go_wp2_with (go_at_call 19; refine (fit11 _).mono ?_; rintro e w1 ⟨rfl, hb1⟩)
  have ht : Two w w1.heap.size (w1.heap.size + 1) [] 0 [] 0 ((w1.alloc (.cells #[.slice none 0 0, .int .u64 0] 45)).alloc (.cells #[.slice none 0 0, .int .u64 0] 45)) := by
    refine ⟨none, none, (LockAt.new w1 _).below ((Below.refl _ _).alloc (Nat.le_refl _) _), ?_, by simp, by omega, hb1.size, Nat.le_trans hb1.size (Nat.le_succ _), (hb1.alloc hb1.size _).alloc (Nat.le_trans hb1.size (by simp)) _⟩
    have := LockAt.new (w1.alloc (.cells #[.slice none 0 0, .int .u64 0] 45)) w.heap.size
    rwa [World.size_alloc] at this
  generalize (w1.alloc _).alloc _ = w2 at *
  generalize w1.heap.size = ga at *
  clear hb1
  go_loopw [19] (fun vi wr => TRel w ga (ga + 1) l.length vi wr) (fun i _ => l.length - (intOf i).toNat)
  case atStart => exact ⟨0, [], 0, Nat.zero_le _, rfl, ht, by omega, by omega, by simp, by simp⟩
  case round =>
    obtain ⟨k, q, ver, hk, rfl, hT, hv0, hv1, hql, hnz⟩ := hrel
    clear ht
    by_cases hlt : k < l.length
    · obtain ⟨b, off, rfl, hbB, hc⟩ := h (by omega)
      have ea := (hT.bl.cell (p := ⟨b, off + k, none⟩) hbB).trans (hc k hlt)
      clear hc
      generalize l[k] = x at *
      have j1 := joinL_len q x
      have j2 := joinV_bd q x ver
      have HJ := Lib.hid (join_twice q x ver)
      have HZ := Lib.hid (joinL_nz q x hnz)
      clear hnz
      go_wp2_with fail
      refine (two_join hT x hv0 (by omega) (by omega)).mono ?_
      rintro e w3 ⟨rfl, t3⟩
      clear hT
      go_wp2_with fail
      refine (two_join t3.symm x hv0 (by omega) (by omega)).mono ?_
      rintro e w4 ⟨rfl, t4⟩
      clear t3
      go_wp2_with fail
      refine (two_join t4 x (by omega) (by omega) (by omega)).mono ?_
      rintro e w5 ⟨rfl, t5⟩
      clear t4
      rw [HJ.out.1, HJ.out.2] at t5
      generalize joinL q x = q' at *
      generalize joinV q x ver = ver' at *
      clear HJ
      by_cases hxo : x = o
      · have hb : (x != o) = false := by simp [hxo]
        clear hxo
        go_wp2_with fail
        go_roundw
        case rel => exact ⟨k + 1, q', ver', by omega, by go_num, t5.symm, by omega, by omega, by omega, HZ.out⟩
        case measure => simp [intOf]; omega
      · have hb : (x != o) = true := by simp [hxo]
        have HZ' := Lib.hid (leaveL_nz q' o HZ.out)
        have l1 := leaveL_len q' o
        have l2 := leaveV_bd q' o ver'
        clear hxo
        go_wp2_with fail
        refine (two_leave t5 o (by omega) (by omega) (by omega)).mono ?_
        rintro e w6 ⟨rfl, t6⟩
        clear t5
        go_wp2_with fail
        refine (two_leave t6.symm o (by omega) (by omega) (by omega)).mono ?_
        rintro e w7 ⟨rfl, t7⟩
        clear t6
        go_wp2_with fail
        go_roundw
        case rel => exact ⟨k + 1, _, _, by omega, by go_num, t7, by omega, by omega, by omega, HZ'.out⟩
        case measure => simp [intOf]; omega
    · go_wp2_with fail
      refine (two_queue hT (by omega)).mono ?_
      rintro e w3 ⟨p, rfl, o3, b3⟩
      have t3 := hT.below b3
      clear hT
      go_wp2_with fail
      refine (two_queue t3.symm (by omega)).mono ?_
      rintro e w4 ⟨p', rfl, o4, b4⟩
      have t4 := t3.below b4
      have o3 := o3.kept (only_of_below b4 none) (by cases p.ownBlock <;> simp)
      obtain ⟨A1, c1, rfl⟩ := own_slice o3
      obtain ⟨A2, c2, rfl⟩ := own_slice o4
      have i3 := LockAt.ints o3
      have i4 := LockAt.ints o4
      clear t3 b3 b4 o3 o4 hlt
      go_wp2_with (first
        | (go_at_call 22; refine (two_version t4).mono ?_; rintro e w' ⟨rfl, rfl⟩)
        | (go_at_call 22; refine (two_version t4.symm).mono ?_; rintro e w' ⟨rfl, rfl⟩))
      have HNZ := Lib.hid hnz
      clear hnz
      go_loopw [51] (fun vi wr => ∃ (j : Nat), j ≤ q.length ∧ vi = .int .i64 j ∧ Two w ga (ga + 1) q ver q ver wr ∧ IntsAt .u64 wr w4.heap.size A1 q ∧ IntsAt .u64 wr w4.heap.size A2 q) (fun i _ => q.length - (intOf i).toNat)
      case atStart => exact ⟨0, Nat.zero_le _, rfl, t4, i3, i4⟩
      case round =>
        obtain ⟨j, hj, rfl, t5, j3, j4⟩ := hrel
        clear t4 i3 i4
        by_cases hlt : j < q.length
        · have J3 := Lib.hid j3
          have J4 := Lib.hid j4
          obtain ⟨b1, o1, rfl, _, hc1⟩ := j3 (by omega)
          obtain ⟨b2, o2, rfl, _, hc2⟩ := j4 (by omega)
          have e1 := hc1 j hlt
          have e2 := hc2 j hlt
          have hz : (q[j] == 0) = false := by simp; exact HNZ.out _ (List.getElem_mem hlt)
          have hjb : (0 : Int) ≤ (j : Int) ∧ (j : Int) < (q.length : Int) := by omega
          clear hc1 hc2 j3 j4
          go_wp2
          go_quiet (fail)
          go_wp2
          go_roundw
          case rel => exact ⟨j + 1, by omega, by go_num, t5.below (below_drewN (Below.refl _ _) _), J3.out.keep (fun _ _ => rfl), J4.out.keep (fun _ _ => rfl)⟩
          case measure => simp [intOf]; omega
        · have HH := Lib.hid (holds_zero q HNZ.out)
          have HJ0 : Hid (joinL q 0 = q ∧ joinV q 0 ver = ver) := by constructor <;> simp [joinL, joinV]
          clear j3 j4
          go_wp2_with fail
          refine (two_join t5 0 hv0 (by omega) (by omega)).mono ?_
          rintro e w5 ⟨rfl, t6⟩
          rw [HJ0.out.1, HJ0.out.2] at t6
          clear t5
          go_wp2_with fail
          refine (two_queue t6 (by omega)).mono ?_
          rintro e w6 ⟨p, rfl, o6, b6⟩
          obtain ⟨A6, c6, rfl⟩ := own_slice o6
          have t7 := t6.below b6
          clear t6 o6 b6
          go_wp2_with (go_at_call 24; refine (two_holds t7 0).mono ?_; rintro e w' ⟨rfl, rfl⟩; rw [HH.out])
          go_ret
          exact ⟨rfl, t7.bl⟩

set_option maxRecDepth 100000 in
theorem ticketTwice_lifted (os : Os) (started : os.Started) (H : Type) (enc : TypeId × Value → H) :
    ReturnsInHanded {} Try.checked os 9 .any (Rows.ticketTwiceSpec.pre6 enc Try.prog Try.f9 Rows.ticketTwiceRow.domain false) (Rows.ticketTwiceSpec.post enc Try.prog Try.f9 false true false false) := by
  refine lifted_of (C := Try.checked) laidOut own started (by kernel_rfl) Try.func9 rfl Try.underlying4 (by kernel_rfl) rfl
    (fun ds hds => by match ds, hds with | [_, _], _ => rfl)
    (ChangeSpec.witness6 (enc := enc) (C := Try.checked) false ⟨#[], #[.slice none 0 0, .int .u64 0], []⟩ 8 (by kernel_rfl) (by kernel_rfl) (by kernel_rfl) (by kernel_rfl)) ?_
  intro W base args ds ps hval0 hA0 hlt
  have hval : ∀ (j : Nat) t v, Try.f9.params[j]? = some t → args[j]? = some v → Value.okWide Try.prog W .any base t v := hval0
  have hA : DataW.TrodAll enc Try.prog W 0 (fun _ => true) true Try.f9.params.toList args.toList ds ps := hA0
  rw [Try.params9] at hA hval
  obtain ⟨v0, vs0, d0, ds0, p0, q0, hargs, rfl, rfl, h0, r0⟩ := trodAll_cons hA
  obtain ⟨v1, vs1, d1, ds1, p1, q1, rfl, rfl, rfl, h1, r1⟩ := trodAll_cons r0
  obtain ⟨rfl, rfl, rfl⟩ := trodAll_nil r1
  obtain rfl : args = #[v0, v1] := by cases args; simp_all
  obtain ⟨A0, l0, c0, rfl, hm0, hi0, hw0⟩ := open_intsV Try.underlying43 Try.underlying26 (by kernel_rfl) (hval 0 43 v0 rfl rfl) h0 (fun x hx => hlt x (List.mem_append_left _ hx))
  obtain ⟨x1, rfl, rfl, rfl, w1⟩ := open_int Try.underlying26 (hval 1 26 v1 rfl rfl) h1
  exact ticketTwice_walk A0 c0 l0 x1 W hi0 (by unfold maxLen at hm0; omega)

theorem ticketTwice_holds : Rows.TicketTwiceSaid :=
  OpenClaim.holds_of_wide 9 Try.f9 rfl rfl rfl rfl rfl rfl rfl ⟨rfl, rfl, rfl, rfl, rfl⟩ rfl rfl rfl rfl rfl (by kernel_rfl) Try.func9 (by kernel_rfl)
    (of_decide_eq_true (by kernel_rfl)) (by unfold Func.isWrapper; rw [if_neg (of_decide_eq_false (by kernel_rfl))]; exact ⟨rfl, rfl⟩)
    (fun os started H enc _ => ticketTwice_lifted os started H enc)

#print axioms ticketTwice_holds
end Go.Proofs.Ytbohhabnejmemaa
