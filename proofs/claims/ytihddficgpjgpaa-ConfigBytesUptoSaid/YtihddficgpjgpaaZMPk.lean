/- MPk: PBytes, PPut, PReader, PTake, PNum, one behind the other. -/
import Derived.Test.YtihddficgpjgpaaZReads
import Derived.Test.YtihddficgpjgpaaZOpen
import Derived.Test.YtihddficgpjgpaaZBits
import Derived.Laws.BytesString
import Derived.Laws.IdiomStrings
import Derived.Outline
import Derived.BigQuiet
import Derived.BigRegion
import Derived.WalkSpells
import Derived.WalkLawsBesides
import Derived.Deep.LoopGhost
import Derived.RangeFuncBox
namespace Go.Proofs.Ytihddficgpjgpaa.Pk
open Go.RowKit Go.ChangeShapes Go.WideShapes
theorem own_slice {w : World} {B e size n : Nat} {v : Value} {xs : List Value} (h : w.ownsRow B e size v n xs) : ∃ A c, v = .slice A n c := by
  rcases h.2 with ⟨rfl, rfl⟩ | ⟨g, cap, cur, rfl, _⟩
  · exact ⟨none, 0, rfl⟩
  · exact ⟨_, _, rfl⟩
theorem own_base {w : World} {base : Nat} {e : TypeId} {size n b : Nat} {v : Value} {xs : List Value} (h : w.ownsRow base e size v n xs) (hb : v.ownBlock = some b) : base ≤ b := by
  rcases h.2 with ⟨rfl, _⟩ | ⟨g', cap, cur, rfl, hB, _⟩
  · simp [Value.ownBlock] at hb
  · simp [Value.ownBlock] at hb; omega
theorem own_ints {k : IntKind} {w : World} {B : Nat} {e : TypeId} {q : List Int} {A : Option Addr} {c : Nat} (h : w.ownsRow B e 1 (.slice A q.length c) q.length (q.map (Value.int k))) : IntsAt k w w.heap.size A q := fun hq => by
  obtain ⟨g', cur, rfl, hb, hB, h1, h2, h3, h4⟩ := own_blk h hq
  refine ⟨g', 0, rfl, hB.lt, fun i hi => ?_⟩
  refine (hB.cell _).trans ?_
  have : (q.map (Value.int k))[i]? = some (.int k q[i]) := by simp [hi]
  rw [← h4, List.getElem?_take, if_pos (by omega)] at this
  rw [Nat.zero_add, ← this]; simp
def Byt (l : List Int) : Prop := ∀ x ∈ l, 0 ≤ x ∧ x < 256
def u8s (l : List Int) : List Value := l.map (Value.int .u8)
/-- A byte. -/
def b8 (x : Int) : UInt8 := UInt8.ofNat x.toNat
theorem b8_inj {x y : Int} (hx : 0 ≤ x ∧ x < 256) (hy : 0 ≤ y ∧ y < 256) (h : b8 x = b8 y) : x = y := by
  have h2 := congrArg UInt8.toNat h
  simp [b8] at h2
  omega
theorem map_b8_inj : ∀ (a b : List Int), Byt a → Byt b → a.map b8 = b.map b8 → a = b
  | [], [], _, _, _ => rfl
  | [], _ :: _, _, _, h => by simp at h
  | _ :: _, [], _, _, h => by simp at h
  | x :: a, y :: b, ha, hb, h => by
    simp only [List.map_cons, List.cons.injEq] at h
    rw [b8_inj (ha x (by simp)) (hb y (by simp)) h.1, map_b8_inj a b (fun z hz => ha z (by simp [hz])) (fun z hz => hb z (by simp [hz])) h.2]
/-- The string of a row of bytes. -/
def strOf (l : List Int) : ByteArray := l.foldl (fun r n => r.push (UInt8.ofNat n.toNat)) ByteArray.empty
theorem foldl_push : ∀ (l : List Int) (r : ByteArray), l.foldl (fun r n => r.push (UInt8.ofNat n.toNat)) r = ⟨r.data ++ (l.map b8).toArray⟩
  | [], r => by simp
  | b :: l, r => by
    simp only [List.foldl_cons]
    rw [foldl_push l]
    simp [ByteArray.push, b8]
theorem strOf_data (l : List Int) : (strOf l).data.toList = l.map b8 := by
  unfold strOf
  rw [foldl_push]
  have he0 : ByteArray.empty.data = #[] := rfl
  rw [he0]
  simp
theorem byteArray_toList (b : ByteArray) : b.toList = b.data.toList := ByteArray.toList_eq b
theorem strOf_beq {a b : List Int} (ha : Byt a) (hb : Byt b) : ((strOf a).toList == (strOf b).toList) = decide (a = b) := by
  rw [byteArray_toList, byteArray_toList, strOf_data, strOf_data]
  by_cases h : a = b
  · subst h; simp
  · rw [decide_eq_false h]
    simp
    exact fun e => h (map_b8_inj a b ha hb e)
theorem run_str (w : World) {B : Nat} {A : Option Addr} {l : List Int} (h : IntsAt .u8 w B A l) (c : Nat) :
    (convert 22 9 (.slice A l.length c)).run Try.prog w = .ok (.string (strOf l)) w := by
  rw [run_convert_bytes_string w 22 9 5 A l.length c Try.underlying22 Try.underlying5 Try.underlying9]
  cases A with
  | none =>
    have hl : l = [] := by
      rcases Nat.eq_zero_or_pos l.length with h0 | h0
      · exact List.eq_nil_of_length_eq_zero h0
      · obtain ⟨_, _, e, _⟩ := h h0
        cases e
    subst hl
    rfl
  | some ad =>
    have hl := run_loadCells_list (P := Try.prog) w ad (l.map (Value.int .u8)) (fun j v hj => by
      obtain ⟨hj', hv⟩ := List.getElem?_eq_some_iff.1 hj
      simp at hj'
      obtain ⟨b, off, e, hb, hc⟩ := h (by omega)
      cases e
      rw [add_none, hc j hj', ← hv]; simp)
    simp only [List.length_map] at hl
    rw [run_bytesToString w ad l.length c l hl]
    rfl
end Go.Proofs.Ytihddficgpjgpaa.Pk
namespace Go.Proofs.Ytihddficgpjgpaa.Pk
open Go.RowKit Go.ChangeShapes Go.WideShapes
/-- A number's lowest k bytes, the highest first. -/
def putL : Nat → Int → List Int
  | 0, _ => []
  | k + 1, x => x / 256 ^ k % 256 :: putL k x
theorem putL_length (k : Nat) (x : Int) : (putL k x).length = k := by induction k with | zero => rfl | succ k ih => simp [putL, ih]
theorem putL_byt (k : Nat) (x : Int) : Byt (putL k x) := by
  induction k with
  | zero => intro y hy; simp [putL] at hy
  | succ k ih =>
    intro y hy
    rcases List.mem_cons.1 hy with rfl | hy
    · exact ⟨Int.emod_nonneg _ (by omega), Int.emod_lt_of_pos _ (by omega)⟩
    · exact ih y hy
theorem Try.info5 : (Try.prog.info? 5).map (fun i => (i.zero, i.size, i.bytes)) = some (some (.int .u8 0), 1, 1) := by kernel_rfl
theorem _root_.Go.Proofs.Ytihddficgpjgpaa.IntsAt.reads {k : IntKind} {w : World} {B : Nat} {A : Option Addr} {l : List Int} (h : IntsAt k w B A l) : Reads w B 1 A l.length (l.map (Value.int k)) :=
  ⟨by simp, fun hn => by
    obtain ⟨b, off, e, hb, hc⟩ := h hn
    refine ⟨_, e, hb, fun j u hu => ?_⟩
    obtain ⟨hj, hu⟩ := List.getElem?_eq_some_iff.1 hu
    simp at hj
    rw [add_none, hc j hj, ← hu]; simp⟩
theorem one_u8s (l : List Int) : ∀ u ∈ u8s l, u.oneCell' = true := by intro u hu; simp [u8s] at hu; obtain ⟨x, _, rfl⟩ := hu; rfl
theorem pow_256 (k : Nat) : (2 : Int) ^ (8 * k) = 256 ^ k := by rw [Int.pow_mul]; rfl
def RPut (w : World) (xs : List Int) (n : Nat) (x : Int) (vo vk : Value) (wr : World) : Prop :=
  ∃ (k : Nat) (ys : List Int), k ≤ n ∧ vk = .int .i64 k ∧ wr.ownsRow w.heap.size 5 1 vo ys.length (u8s ys) ∧ ys ++ putL k x = xs ++ putL n x ∧ ys.length + k = xs.length + n ∧ Below w.heap.size w wr
set_option maxRecDepth 100000 in
set_option maxHeartbeats 800000 in
theorem put_any (A : Option Addr) (c : Nat) (l : List Int) (n : Nat) (x : Int) (B : Nat) (w : World) (h : IntsAt .u8 w B A l) (hm : l.length ≤ 1000000) (hn : n ≤ 8) :
    Calls Try.prog 29 #[.slice A l.length c, .int .i64 n, .int .u64 x] w fun e w' => ∃ v, e = .returned v ∧ w'.ownsRow w.heap.size 5 1 v (l.length + n) (u8s (l ++ putL n x)) ∧ Below w.heap.size w w' := by
  obtain ⟨i0, hi0, hz0, hz1, hz2⟩ := info_parts Try.info5
  have hr := h.reads
  clear h
  have hb := Lib.hid (show l.length ≤ maxLen ∧ l.length * 1 ≤ 140737488355328 by unfold maxLen; omega)
  go_enter Try.func29, Try.ntmps29
  go_wp2_with (at_builtin; refine wpList_append_any _ rfl _ _ 22 rfl w.heap.size 5 i0 _ 1 1 Try.underlying22 hi0 hz0 hz1 hz2 rfl (by decide) (.slice none 0 0) 0 [] rfl (World.ownsRow_nil _ _ _ _) B A l.length c (u8s l) rfl hr (one_u8s _) (by rw [Nat.zero_add]; exact hb.out.1) (by rw [Nat.zero_add]; exact hb.out.2) (Nat.le_refl _) ?_; intro v1 w1 o1 g1 a1)
  have r1 : RPut w l n x v1 (.int .i64 n) w1 := ⟨n, l, Nat.le_refl _, rfl, by simpa using o1, rfl, rfl, (Below.refl _ _).grown g1 (Nat.le_refl _) (by simp [Value.ownBlock])⟩
  clear o1 g1 a1 hr
  go_loopw [7, 8] (fun vo vk wr => RPut w l n x vo vk wr) (fun _ vk _ => (intOf vk).toNat)
  case atStart => exact r1
  case round =>
    clear r1
    obtain ⟨k, ys, hk, rfl, ho, he, hl, hb1⟩ := hrel
    have HE := Lib.hid he
    clear he
    obtain ⟨A7, c7, rfl⟩ := own_slice ho
    cases k with
    | zero =>
      go_wp2
      go_ret
      have e := HE.out
      simp only [putL, List.append_nil] at e
      have e2 : ys.length = l.length + n := by omega
      exact ⟨_, rfl, by rw [← e, ← e2]; exact ho, hb1⟩
    | succ k =>
      have hcn := Lib.hid (cell_one_new wr (.int .u8 (x / 2 ^ (8 * k) % 256)) 5)
      have ho' := ho.alloc (.cells #[.int .u8 (x / 2 ^ (8 * k) % 256)] 5)
      have hz := hb1.size
      clear ho
      go_wp2_with (at_builtin; refine wpList_append_own_at _ rfl _ _ 22 rfl w.heap.size 5 i0 _ 1 1 Try.underlying22 hi0 hz0 hz1 hz2 rfl (by decide) (.slice A7 ys.length c7) _ _ rfl ho' ⟨wr.heap.size, 0, none⟩ 1 1 [.int .u8 (x / 2 ^ (8 * k) % 256)] rfl rfl hcn.out (by intro u hu; simp at hu; subst hu; rfl) (by unfold maxLen; omega) (by omega) (by simp; omega) ?_; intro v2 w2 o2 g2 _ _)
      go_roundw
      case rel =>
        refine ⟨k, ys ++ [x / 256 ^ k % 256], by omega, by go_num, ?_, ?_, by simp; omega, (hb1.alloc hb1.size _).grown g2 (by simp; omega) (fun b hb => own_base ho' hb)⟩
        · rw [← pow_256]; simpa [u8s] using o2
        · have e := HE.out; simp only [putL] at e; simpa using e
      case measure => simp [intOf]
end Go.Proofs.Ytihddficgpjgpaa.Pk
namespace Go.Proofs.Ytihddficgpjgpaa.Pk
open Go.RowKit Go.ChangeShapes Go.WideShapes
/-- A reader of bs, at a place, that has failed or not. -/
def RdAt (w : World) (g : Nat) (bs : List Int) (at_ : Nat) (bad : Bool) : Prop :=
  ∃ (A : Option Addr) (c : Nat), Blk w g 114 #[.slice A bs.length c, .int .i64 at_, .bool bad] ∧ IntsAt .u8 w g A bs ∧ bs.length ≤ c ∧ at_ ≤ bs.length
section
variable {w w' : World} {g at_ : Nat} {bs : List Int} {bad : Bool}
theorem RdAt.lt (h : RdAt w g bs at_ bad) : g < w.heap.size := by obtain ⟨_, _, hb, _⟩ := h; exact hb.lt
theorem RdAt.at_le (h : RdAt w g bs at_ bad) : at_ ≤ bs.length := by obtain ⟨_, _, _, _, _, h⟩ := h; exact h
theorem RdAt.below (h : RdAt w g bs at_ bad) (hb : Below w.heap.size w w') : RdAt w' g bs at_ bad := by
  have hl := h.lt
  obtain ⟨A, c, h1, h2, h3, h4⟩ := h
  exact ⟨A, c, h1.below hb hl, h2.keep (fun p hp => hb.cell (by omega)), h3, h4⟩
/-- Some other block above the reader's bytes has turned. -/
theorem RdAt.grown (h : RdAt w g bs at_ bad) {g' : Nat} (hg : w.grownBy w' (some g')) (hne : g < g') : RdAt w' g bs at_ bad := by
  have hl := h.lt
  obtain ⟨A, c, h1, h2, h3, h4⟩ := h
  exact ⟨A, c, h1.grown hg (by simp; omega), h2.keep (fun p hp => World.cell?_of_block (hg.block _ (by omega) (by simp; omega))), h3, h4⟩
theorem RdAt.new (w : World) {A : Option Addr} {c : Nat} (h : IntsAt .u8 w w.heap.size A bs) (hc : bs.length ≤ c) : RdAt (w.alloc (.cells #[.slice A bs.length c, .int .i64 0, .bool false] 114)) w.heap.size bs 0 false :=
  ⟨A, c, Blk.new w 114 _, h.keep (fun _ hp => World.cell?_alloc_lt _ _ _ hp), hc, Nat.zero_le _⟩
end
theorem new_any (A : Option Addr) (c : Nat) (bs : List Int) (w : World) (h : IntsAt .u8 w w.heap.size A bs) (hc : bs.length ≤ c) :
    Calls Try.prog 31 #[.slice A bs.length c] w fun e w' => e = .returned (.pointer (some ⟨w.heap.size, 0, none⟩)) ∧ RdAt w' w.heap.size bs 0 false ∧ Below w.heap.size w w' := by
  have HR := Lib.hid (RdAt.new w h hc)
  have HB := Lib.hid ((Below.refl w.heap.size w).alloc (Nat.le_refl _) (.cells #[.slice A bs.length c, .int .i64 0, .bool false] 114))
  clear h hc
  go_enter Try.func31, Try.ntmps31
  go_wp2
  go_ret
  exact ⟨rfl, HR.out, HB.out⟩
theorem bad_any {g at_ : Nat} {bs : List Int} {bad : Bool} {w : World} (h : RdAt w g bs at_ bad) :
    Calls Try.prog 33 #[.pointer (some ⟨g, 0, none⟩)] w fun e w' => e = .returned (.bool bad) ∧ w = w' := by
  obtain ⟨A, c, hb, _⟩ := h
  have e2 := hb.cell 2
  simp at e2
  go_enter Try.func33, Try.ntmps33
  go_wp2
  go_ret
  exact ⟨rfl, rfl⟩
theorem rest_any {g at_ : Nat} {bs : List Int} {bad : Bool} {w : World} (h : RdAt w g bs at_ bad) (hm : bs.length ≤ 1000000) :
    Calls Try.prog 34 #[.pointer (some ⟨g, 0, none⟩)] w fun e w' => e = .returned (.int .i64 ((bs.length : Int) - at_)) ∧ Below w.heap.size w w' := by
  obtain ⟨A, c, hb, _, _, hat⟩ := h
  have e0 := hb.cell 0
  have e1 := hb.cell 1
  simp at e0 e1
  have b0 := Below.refl w.heap.size w
  clear hb
  go_enter Try.func34, Try.ntmps34
  go_wp2
  go_region
  go_wp2
  go_ret
  exact ⟨rfl, below_drewN b0 _⟩
theorem fail_any {g at_ : Nat} {bs : List Int} {bad : Bool} {w : World} (h : RdAt w g bs at_ bad) :
    Calls Try.prog 39 #[.pointer (some ⟨g, 0, none⟩)] w fun e w' => e = .returned (.tuple #[]) ∧ RdAt w' g bs at_ true ∧ w.grownBy w' (some g) := by
  obtain ⟨A, c, hb, hi, hc, hat⟩ := h
  have e2 := hb.cell 2
  have f2 := hb.frozen 2
  simp at e2
  have HR : Hid (RdAt (w.setCell ⟨g, 2, none⟩ (.bool true)) g bs at_ true) :=
    ⟨A, c, hb.set_ 2 _, hi.keep (fun p hp => World.cell?_setCell_other _ _ _ _ (by intro e; subst e; simp at hp)), hc, hat⟩
  have HG := Lib.hid (only_setCell (only_refl w (some g)) (p := ⟨g, 2, none⟩) (.inl rfl) (.bool true))
  clear hb hi
  go_enter Try.func39, Try.ntmps39
  go_wp2
  go_end0
  exact ⟨rfl, HR.out, HG.out⟩
end Go.Proofs.Ytihddficgpjgpaa.Pk
namespace Go.Proofs.Ytihddficgpjgpaa.Pk
open Go.RowKit Go.ChangeShapes Go.WideShapes
theorem only_of_fresh {a b : World} {row : Option Nat} (h : a.grownBy b none) : a.grownBy b row := ⟨h.os, h.tape, h.output, h.size, fun i hi _ => h.block i hi (by simp)⟩
theorem block_add (a : Addr) (n : Nat) : (a.add n).block = a.block := by unfold Addr.add; split <;> rfl
theorem reads_at {w : World} {B c : Nat} {ad : Addr} (bs : List Int) (at_ n : Nat) (hc : bs.length ≤ c) (hn : at_ + n ≤ bs.length) (h : IntsAt .u8 w B (some ad) bs) :
    ∃ A2 : Addr, (if c = at_ then some ad else some (ad.add at_)) = some A2 ∧ Hid (Reads w B 1 (some A2) n (u8s ((bs.drop at_).take n))) := by
  have hl : (u8s ((bs.drop at_).take n)).length = n * 1 := by simp [u8s]; omega
  by_cases h' : c = at_
  · exact ⟨_, by rw [if_pos h'], hl, fun h0 => by omega⟩
  · refine ⟨_, by rw [if_neg h'], hl, fun h0 => ?_⟩
    obtain ⟨b, off, e, hb, hcl⟩ := h (by omega)
    cases e
    refine ⟨_, rfl, by rw [block_add]; exact hb, fun j u hu => ?_⟩
    obtain ⟨hj, hu⟩ := List.getElem?_eq_some_iff.1 hu
    have hj' : j < n := by simp [u8s] at hj; omega
    rw [add_none, add_none, Nat.add_assoc, hcl (at_ + j) (by omega), ← hu]; simp [u8s]
set_option maxRecDepth 100000 in
set_option maxHeartbeats 800000 in
theorem take_ok {g at_ : Nat} {bs : List Int} {w : World} (h : RdAt w g bs at_ false) (hm : bs.length ≤ 1000000) (n : Nat) (hn : at_ + n ≤ bs.length) :
    Calls Try.prog 35 #[.pointer (some ⟨g, 0, none⟩), .int .i64 n] w fun e w' => ∃ v, e = .returned v ∧ w'.ownsRow w.heap.size 5 1 v n (u8s ((bs.drop at_).take n)) ∧ RdAt w' g bs (at_ + n) false ∧ w.grownBy w' (some g) := by
  obtain ⟨i0, hi0, hz0, hz1, hz2⟩ := info_parts Try.info5
  have h0 := h
  obtain ⟨A, c, hb, hi, hc, hat⟩ := h
  have e0 := hb.cell 0
  have e1 := hb.cell 1
  have f1 := hb.frozen 1
  simp at e0 e1
  have hgt : (decide ((n : Int) > (bs.length : Int) - at_)) = false := by simp; omega
  cases A with
  | none =>
    have hl : bs = [] := by
      rcases Nat.eq_zero_or_pos bs.length with h0 | h0
      · exact List.eq_nil_of_length_eq_zero h0
      · obtain ⟨_, _, e, _⟩ := hi h0
        cases e
    subst hl
    obtain rfl : at_ = 0 := by simpa using hat
    obtain rfl : n = 0 := by simpa using hn
    simp only [List.length_nil] at e0 hb
    clear hgt hn hat hc
    go_enter Try.func35, Try.ntmps35
    go_wp2_with (first
      | (go_at_call 33; refine (bad_any h0).mono ?_; rintro e w' ⟨rfl, rfl⟩)
      | (go_at_call 34; refine (rest_any h0 hm).mono ?_; rintro e w1 ⟨rfl, hb1⟩; have k1 := hb.below hb1 hb.lt; have e0 := k1.cell 0; have e1 := k1.cell 1; have f1 := k1.frozen 1; simp at e0 e1))
    have k2 := k1.set_ 1 (.int .i64 0)
    have G2 := Lib.hid (only_setCell (only_of_below hb1 (some g)) (p := ⟨g, 1, none⟩) (.inl rfl) (.int .i64 0))
    generalize w1.setCell ⟨g, 1, none⟩ (.int .i64 0) = w2 at *
    have e0 := k2.cell 0
    have e1 := k2.cell 1
    simp at e0 e1
    have HK2 := Lib.hid k2
    have HB2 : Hid (w.heap.size ≤ w2.drew.heap.size) := G2.out.size
    clear k1 hb hi hb1 h0 f1 k2
    go_region
    go_wp2
    go_ret
    refine ⟨.slice none 0 0, rfl, World.ownsRow_nil _ _ _ _, ⟨none, c, HK2.out, fun h => absurd h (by simp), by simp, by simp⟩, only_drew G2.out⟩
  | some ad =>
    go_enter Try.func35, Try.ntmps35
    go_wp2_with (first
      | (go_at_call 33; refine (bad_any h0).mono ?_; rintro e w' ⟨rfl, rfl⟩)
      | (go_at_call 34; refine (rest_any h0 hm).mono ?_; rintro e w1 ⟨rfl, hb1⟩; have k1 := hb.below hb1 hb.lt; have e0 := k1.cell 0; have e1 := k1.cell 1; have f1 := k1.frozen 1; simp at e0 e1))
    have k2 := k1.set_ 1 (.int .i64 ((at_ : Int) + n))
    have G2 := Lib.hid (only_setCell (only_of_below hb1 (some g)) (p := ⟨g, 1, none⟩) (.inl rfl) (.int .i64 ((at_ : Int) + n)))
    have i2 : IntsAt .u8 (w1.setCell ⟨g, 1, none⟩ (.int .i64 ((at_ : Int) + n))) g (some ad) bs := (hi.keep (fun p hp => hb1.cell (by have := hb.lt; omega))).keep (fun p hp => World.cell?_setCell_other _ _ _ _ (by intro e; subst e; simp at hp))
    generalize w1.setCell ⟨g, 1, none⟩ (.int .i64 ((at_ : Int) + n)) = w2 at *
    have e0 := k2.cell 0
    have e1 := k2.cell 1
    simp at e0 e1
    obtain ⟨A2, hA2, HA2⟩ := reads_at bs at_ n hc hn i2
    have hsub : (at_ : Int) + n - n = at_ := by omega
    have hw1 : IntKind.i64.wrap (at_ : Int) = at_ := IntWalk.i64_in _ (by omega)
    have hb6 : (0 : Int) ≤ (at_ : Int) + n := by omega
    have hb3 : (0 : Int) ≤ (at_ : Int) ∧ (at_ : Int) ≤ (at_ : Int) + n := by omega
    have hb4 : (at_ : Int) + n ≤ c := by omega
    have hb5 : at_ + n ≤ c := by omega
    have ht5 : ((at_ : Int) + n).toNat = at_ + n := by omega
    have HK2 := Lib.hid k2
    have HB2 : Hid (w.heap.size ≤ w2.drew.heap.size) := G2.out.size
    clear k1 hb hi hb1 h0 f1 k2
    go_region_law (refine step_append_any _ rfl (.const (.slice none 0 0)) (.tmp 41) 22 rfl w.heap.size 5 i0 _ 1 1 Try.underlying22 hi0 hz0 hz1 hz2 rfl (by decide) (.slice none 0 0) 0 [] rfl (World.ownsRow_nil _ _ _ _) _ _ n (c - at_) (u8s ((bs.drop at_).take n)) (by simp [Act.eval, Act.put]) HA2.out.drew (one_u8s _) (by unfold maxLen; omega) (by omega) HB2.out ?_; intro v6 W6 o6 g6 _)
    all_goals
      go_wp2
      go_ret
      have k6 := HK2.out.drew.grown g6 (by simp [Value.ownBlock])
      refine ⟨v6, rfl, by simpa using o6, ⟨some ad, c, k6, i2.keep (fun p hp => World.cell?_of_block (g6.block p.block (by have := HK2.out.lt; show _ < w2.heap.size; omega) (by simp [Value.ownBlock]))), hc, hn⟩, only_trans (only_drew G2.out) (only_of_fresh g6)⟩
end Go.Proofs.Ytihddficgpjgpaa.Pk
namespace Go.Proofs.Ytihddficgpjgpaa.Pk
open Go.RowKit Go.ChangeShapes Go.WideShapes
set_option maxRecDepth 100000 in
set_option maxHeartbeats 800000 in
/-- There aren't so many bytes, or it has failed before. -/
theorem take_fail {g at_ : Nat} {bs : List Int} {bad : Bool} {w : World} (h : RdAt w g bs at_ bad) (hm : bs.length ≤ 1000000) (n : Int) (hn : bad = true ∨ n < 0 ∨ (bs.length : Int) - at_ < n) :
    Calls Try.prog 35 #[.pointer (some ⟨g, 0, none⟩), .int .i64 n] w fun e w' => e = .returned (.slice none 0 0) ∧ RdAt w' g bs at_ true ∧ w.grownBy w' (some g) := by
  have hl := h.lt
  cases bad with
  | true =>
    clear hn
    go_enter Try.func35, Try.ntmps35
    go_wp2_with (first
      | (go_at_call 33; refine (bad_any h).mono ?_; rintro e w' ⟨rfl, rfl⟩)
      | (go_at_call 39; refine (fail_any h).mono ?_; rintro e w2 ⟨rfl, h2, g2⟩))
    go_ret
    exact ⟨rfl, h2, g2⟩
  | false =>
    by_cases hneg : n < 0
    · clear hn
      go_enter Try.func35, Try.ntmps35
      go_wp2_with (first
        | (go_at_call 33; refine (bad_any h).mono ?_; rintro e w' ⟨rfl, rfl⟩)
        | (go_at_call 39; refine (fail_any h).mono ?_; rintro e w2 ⟨rfl, h2, g2⟩))
      go_ret
      exact ⟨rfl, h2, g2⟩
    · have hgt : (bs.length : Int) - at_ < n := by simpa [hneg] using hn
      clear hn
      go_enter Try.func35, Try.ntmps35
      go_wp2_with (first
        | (go_at_call 33; refine (bad_any h).mono ?_; rintro e w' ⟨rfl, rfl⟩)
        | (go_at_call 34; refine (rest_any h hm).mono ?_; rintro e w1 ⟨rfl, hb1⟩; have h1 := h.below hb1)
        | (go_at_call 39; refine (fail_any h1).mono ?_; rintro e w2 ⟨rfl, h2, g2⟩))
      go_ret
      exact ⟨rfl, h2, only_trans (only_of_below hb1 (some g)) g2⟩
/-- The number that bytes are, the highest first. -/
def numL (l : List Int) : Int := l.foldl (fun x b => x * 256 + b) 0
theorem numL_snoc (l : List Int) (b : Int) : numL (l ++ [b]) = numL l * 256 + b := by simp [numL]
theorem numL_bd : ∀ (n : Nat) (l : List Int), l.length = n → Byt l → 0 ≤ numL l ∧ numL l < 256 ^ n
  | 0, l, hl, _ => by
    obtain rfl := List.eq_nil_of_length_eq_zero hl
    simp [numL]
  | n + 1, l, hl, h => by
    have hne : l ≠ [] := by rintro rfl; simp at hl
    obtain ⟨l', b, rfl⟩ : ∃ l' b, l = l' ++ [b] := ⟨_, _, (List.dropLast_concat_getLast hne).symm⟩
    have h1 := numL_bd n l' (by simpa using hl) (fun x hx => h x (by simp [hx]))
    have h2 := h b (by simp)
    rw [numL_snoc, Int.pow_succ]
    omega
theorem pow_le8 (k : Nat) (hk : k ≤ 7) : (256 : Int) ^ k ≤ 72057594037927936 := by
  have : (256 : Nat) ^ k ≤ 256 ^ 7 := Nat.pow_le_pow_right (by omega) hk
  have h := Int.ofNat_le.2 this
  simpa using h
/-- x<<8 | b. -/
theorem or_byte (x b : Int) (hx : 0 ≤ x) (hx' : x < 72057594037927936) (hb : 0 ≤ b) (hb' : b < 256) : bits .or .u64 (x * 256) b = x * 256 + b := by
  show IntKind.u64.wrap _ = _
  have e : (BitVec.ofInt 64 (x * 256) ||| BitVec.ofInt 64 b).toNat = (x * 256 + b).toNat := by
    rw [BitVec.toNat_or, BitVec.toNat_ofInt, BitVec.toNat_ofInt]
    have e1 : (x * 256 % ((2 ^ 64 : Nat) : Int)).toNat = 2 ^ 8 * x.toNat := by omega
    have e2 : (b % ((2 ^ 64 : Nat) : Int)).toNat = b.toNat := by omega
    rw [e1, e2, ← Nat.two_pow_add_eq_or_of_lt (by omega)]
    omega
  have e3 : IntKind.u64.wrap (((BitVec.ofInt 64 (x * 256) ||| BitVec.ofInt 64 b).toNat : Nat) : Int) = x * 256 + b := by
    rw [e, IntKind.wrap_u64]
    omega
  exact e3
set_option maxRecDepth 100000 in
set_option maxHeartbeats 800000 in
theorem num_ok {g at_ : Nat} {bs : List Int} {w : World} (h : RdAt w g bs at_ false) (hB : Byt bs) (hm : bs.length ≤ 1000000) (n : Nat) (hn : at_ + n ≤ bs.length) (hn1 : 1 ≤ n) (hn8 : n ≤ 8) :
    Calls Try.prog 32 #[.pointer (some ⟨g, 0, none⟩), .int .i64 n] w fun e w' => e = .returned (.int .u64 (numL ((bs.drop at_).take n))) ∧ RdAt w' g bs (at_ + n) false ∧ w.grownBy w' (some g) := by
  have hlt := h.lt
  go_enter Try.func32, Try.ntmps32
  go_wp2_with (go_at_call 35; refine (take_ok h hm n hn).mono ?_; rintro e w1 ⟨v, rfl, o1, h1, g1⟩; obtain ⟨A1, c1, hv1⟩ := own_slice o1; rw [hv1])
  have hl : ((bs.drop at_).take n).length = n := by simp; omega
  have hby : Byt ((bs.drop at_).take n) := fun x hx => hB x (List.mem_of_mem_drop (List.mem_of_mem_take hx))
  have HE : Hid (numL ((bs.drop at_).take n) = numL ((bs.drop at_).take n)) := rfl
  have h1' := Lib.hid h1
  have g1' := Lib.hid g1
  have hi : IntsAt .u8 w1 w1.heap.size A1 ((bs.drop at_).take n) := by
    rw [hv1] at o1
    have := own_ints (k := .u8) (q := (bs.drop at_).take n) (A := A1) (c := c1) (by rw [hl]; exact o1)
    exact this
  clear o1 hv1 h1 g1 HE
  generalize hl0 : (bs.drop at_).take n = l at *
  have HL := Lib.hid hl0
  clear hl0
  have HBY := Lib.hid hby
  clear hby
  go_loop [5, 20] (fun vx vi => ∃ k : Nat, k ≤ n ∧ vi = .int .i64 k ∧ vx = .int .u64 (numL (l.take k))) (fun _ vi => n - (intOf vi).toNat)
  case atStart => exact ⟨0, Nat.zero_le _, rfl, rfl⟩
  case round =>
    obtain ⟨k, hk, rfl, rfl⟩ := hrel
    by_cases hlt' : k < n
    · obtain ⟨b, off, rfl, hbB, hc⟩ := hi (by omega)
      have e0 := hc k (by omega)
      have hnum := numL_bd k (l.take k) (by simp; omega) (fun x hx => HBY.out x (List.mem_of_mem_take hx))
      have hpw := pow_le8 k (by omega)
      have hx := HBY.out l[k] (List.getElem_mem _)
      have hor := or_byte (numL (l.take k)) l[k] (by omega) (by omega) hx.1 hx.2
      have HN : Hid (numL (l.take (k + 1)) = numL (l.take k) * 256 + l[k]) := by
        show _ = _
        rw [List.take_succ_eq_append_getElem (by omega), numL_snoc]
      have hw := hnum.1
      have hw' : numL (l.take k) < 72057594037927936 := by omega
      clear hc hnum hpw
      generalize numL (l.take k) = x at *
      generalize l[k]'(by omega) = y at *
      go_wp2
      go_round
      case rel => exact ⟨k + 1, by omega, by go_num, by rw [HN.out]⟩
      case measure => simp [intOf]; omega
    · obtain rfl : k = n := by omega
      have HN : Hid (numL (l.take k) = numL l) := by show _ = _; rw [List.take_of_length_le (by omega)]
      go_wp2
      go_ret
      exact ⟨ret_int (HN.out.trans (by rw [HL.out])), h1'.out, g1'.out⟩
set_option maxRecDepth 100000 in
set_option maxHeartbeats 800000 in
theorem num_fail {g at_ : Nat} {bs : List Int} {bad : Bool} {w : World} (h : RdAt w g bs at_ bad) (hm : bs.length ≤ 1000000) (n : Int) (hn1 : 1 ≤ n) (hn8 : n ≤ 8) (hn : bad = true ∨ (bs.length : Int) - at_ < n) :
    Calls Try.prog 32 #[.pointer (some ⟨g, 0, none⟩), .int .i64 n] w fun e w' => e = .returned (.int .u64 0) ∧ RdAt w' g bs at_ true ∧ w.grownBy w' (some g) := by
  have HF := Lib.hid (take_fail h hm n (by rcases hn with h | h; exact .inl h; exact .inr (.inr h)))
  clear hn h
  go_enter Try.func32, Try.ntmps32
  go_wp2_with (go_at_call 35; refine HF.out.mono ?_; rintro e w1 ⟨rfl, h1, g1⟩)
  go_loop [5, 20] (fun vx vi => vi = .int .i64 0 ∧ vx = .int .u64 0) (fun _ _ => 0)
  case atStart => exact ⟨rfl, rfl⟩
  case round =>
    obtain ⟨rfl, rfl⟩ := hrel
    go_wp2
    go_ret
    exact ⟨rfl, h1, g1⟩
theorem emod_step (x p : Int) (hp : 0 < p) : x % (p * 256) = x / p % 256 * p + x % p := by
  have h1 := Int.mul_ediv_add_emod x p
  have h2 := Int.mul_ediv_add_emod (x / p) 256
  have h3 := Int.emod_nonneg x (show p ≠ 0 by omega)
  have h4 := Int.emod_lt_of_pos x hp
  have h5 := Int.emod_nonneg (x / p) (show (256 : Int) ≠ 0 by omega)
  have h6 := Int.emod_lt_of_pos (x / p) (show (0 : Int) < 256 by omega)
  generalize x % p = r at *
  generalize x / p = q at *
  generalize q / 256 = s at *
  generalize q % 256 = t at *
  have h7 : 0 ≤ t * p := Int.mul_nonneg h5 (by omega)
  have h8 : t * p ≤ 255 * p := Int.mul_le_mul_of_nonneg_right (by omega) (by omega)
  have e : x = (t * p + r) + p * 256 * s := by
    rw [← h1, ← h2, Int.mul_add, Int.mul_comm p t, Int.mul_assoc]
    omega
  rw [e, Int.add_mul_emod_self_left, Int.emod_eq_of_lt (by omega) (by omega)]
/-- What putting and reading does to a number. -/
theorem numL_putL (n : Nat) (x : Int) : numL (putL n x) = x % 256 ^ n := by
  have gen : ∀ (n : Nat) (x a : Int), (putL n x).foldl (fun x b => x * 256 + b) a = a * 256 ^ n + x % 256 ^ n := by
    intro n
    induction n with
    | zero => intro x a; simp [putL, Int.emod_one]
    | succ n ih =>
      intro x a
      simp only [putL, List.foldl_cons]
      rw [ih]
      have h1 : x % 256 ^ (n + 1) = x / 256 ^ n % 256 * 256 ^ n + x % 256 ^ n := by
        have hp : (0 : Int) < 256 ^ n := Int.pow_pos (by omega)
        rw [Int.pow_succ]
        generalize (256 : Int) ^ n = p at *
        exact emod_step x p hp
      rw [h1, Int.pow_succ]
      generalize (256 : Int) ^ n = p at *
      generalize x / p % 256 = y at *
      rw [Int.add_mul, Int.mul_assoc, Int.mul_comm 256 p]
      omega
  have := gen n x 0
  simpa [numL] using this
end Go.Proofs.Ytihddficgpjgpaa.Pk
