/- MRef: the laws of labels, in this seat's numbers. -/
import Derived.Test.YtbeeiecbbmiojaaLMLeq
import Derived.Deep.RegionHeld3
import Derived.Deep.CutBlock
import Derived.Test.YtbeeiecbbmiojaaLMTop
import Derived.Laws.StructEq
namespace Go.Proofs.Ytbeeiecbbmiojaa.Lb
open Go.RowKit Go.ChangeShapes Go.WideShapes Go.Shelf
end Go.Proofs.Ytbeeiecbbmiojaa.Lb
namespace Go.Proofs.Ytbeeiecbbmiojaa.Lb
open Go.RowKit Go.ChangeShapes Go.WideShapes Go.Shelf
end Go.Proofs.Ytbeeiecbbmiojaa.Lb
namespace Go.Proofs.Ytbeeiecbbmiojaa.Lb
open Go.RowKit Go.ChangeShapes Go.WideShapes Go.Shelf
end Go.Proofs.Ytbeeiecbbmiojaa.Lb
namespace Go.Proofs.Ytbeeiecbbmiojaa.Lb
open Go.RowKit Go.ChangeShapes Go.WideShapes Go.Shelf
theorem st90 : Try.prog.underlying 117 = some (.struct (Try.prog.fieldsOf 117)) := by
  unfold Program.fieldsOf
  rw [Try.underlying117]
theorem fl90 : (Try.prog.fieldsOf 117).toList = [{ name := "Cat", type := 85, offset := 0, embedded := false, tag := "", pkgPath := "", byteOffset := 0 }, { name := "Level", type := 3, offset := 1, embedded := false, tag := "", pkgPath := "", byteOffset := 8 }] := by
  unfold Program.fieldsOf
  rw [Try.underlying117]
theorem sh90 : Try.prog.stoodInHeld 117 = false := by kernel_rfl
theorem neq_pair (w : World) (a b c d : Int) : (binOp .neq 117 (.agg #[.int .u32 a, .int .i64 b]) (.agg #[.int .u32 c, .int .i64 d])).run Try.prog w = .ok (.bool (!(a == c && b == d))) w := by
  rw [run_neq_struct, run_equalIn_struct w 9999 117 _ _ st90 sh90, fl90]
  have e70 := fun (w : World) (a b : Int) => run_equalIn_int (P := Try.prog) w 9998 85 .u32 .u32 a b Try.underlying85
  have e3 := fun (w : World) (a b : Int) => run_equalIn_int (P := Try.prog) w 9998 3 .i64 .i64 a b Try.underlying3
  simp only [Op.eqFields]
  simp [go_sem]
  by_cases h1 : a = c <;> by_cases h2 : b = d <;> simp [h1, h2]
def REq (w : World) (A A' : Option Addr) (B : Nat) (la lb : List (Int × Int)) (vi : Value) (wr : World) : Prop :=
  ∃ k : Nat, k ≤ la.length ∧ vi = .int .i64 k ∧ la.take k = lb.take k ∧ PairsAt wr B A la ∧ PairsAt wr B A' lb ∧ Below w.heap.size w wr
set_option maxRecDepth 100000 in
set_option maxHeartbeats 800000 in
theorem equal_any (A A' : Option Addr) (c c' B : Nat) (la lb : List (Int × Int)) (w : World) (ha : PairsAt w B A la) (hb : PairsAt w B A' lb) (hl : la.length ≤ 1000000) :
    Calls Try.prog 54 #[.slice A la.length c, .slice A' lb.length c'] w fun e w' => e = .returned (.bool (decide (la = lb))) ∧ Below w.heap.size w w' := by
  have b0 := Below.refl w.heap.size w
  have hneq := neq_pair
  by_cases hlen : la.length = lb.length
  · have hlb : ((la.length : Int) != (lb.length : Int)) = false := by simp; omega
    have r0 : REq w A A' B la lb (.int .i64 0) w := ⟨0, Nat.zero_le _, rfl, by simp, ha, hb, b0⟩
    have HL := Lib.hid hlen
    clear ha hb b0 hlen
    go_enter Try.func54, Try.ntmps54
    go_wp2_with fail
    clear hlb
    go_loopw [13] (fun vi wr => REq w A A' B la lb vi wr) (fun vi _ => la.length - (intOf vi).toNat)
    case atStart => exact r0
    case round =>
      clear r0
      obtain ⟨k, hk, rfl, he, pa, pb, bw⟩ := hrel
      have HE := Lib.hid he
      clear he
      by_cases hlt : k < la.length
      · have hlt2 : k < lb.length := by have := HL.out; omega
        obtain ⟨b1, o1, rfl, _, hc1⟩ := pa (by omega)
        obtain ⟨b2, o2, rfl, _, hc2⟩ := pb (by omega)
        obtain ⟨c1, c2⟩ := hc1 k hlt
        obtain ⟨c3, c4⟩ := hc2 k hlt2
        have i0 : (0 : Int) ≤ (k : Int) := by omega
        have i1 : (k : Int) < (la.length : Int) := by omega
        have i2 : (k : Int) < (lb.length : Int) := by omega
        by_cases hp : la[k] = lb[k]
        · have N := Lib.hid (show la.take (k + 1) = lb.take (k + 1) by
            rw [List.take_succ_eq_append_getElem hlt, List.take_succ_eq_append_getElem hlt2, HE.out, hp])
          rw [hp] at c1 c2
          have PA := Lib.hid pa
          have PB := Lib.hid pb
          have BW := Lib.hid bw
          clear hc1 hc2 hp pa pb bw
          generalize lb[k] = pr at *
          obtain ⟨x, y⟩ := pr
          simp only at c1 c2 c3 c4
          go_wp2_with fail
          go_quiet (fail)
          go_wp2_with fail
          go_roundw
          case rel => exact ⟨k + 1, by omega, by go_num, N.out, PA.out.keep (fun _ _ => rfl), PB.out.keep (fun _ _ => rfl), below_drewN BW.out _⟩
          case measure => simp [intOf]; omega
        · have hne := Lib.hid (show decide (la = lb) = false by
            simp
            rintro rfl
            exact hp rfl)
          have BW := Lib.hid bw
          have hb1 : (la[k].1 == lb[k].1 && la[k].2 == lb[k].2) = false := by
            cases h1 : (la[k].1 == lb[k].1 && la[k].2 == lb[k].2) with
            | false => rfl
            | true =>
              simp at h1
              exact absurd (Prod.ext h1.1 h1.2) hp
          clear hc1 hc2 hp pa pb bw
          generalize lb[k] = pr at *
          generalize la[k] = pq at *
          obtain ⟨x, y⟩ := pr
          obtain ⟨x2, y2⟩ := pq
          simp only at c1 c2 c3 c4 hb1
          go_wp2_with fail
          go_quiet (fail)
          go_wp2_with fail
          go_ret
          exact ⟨ret_bool hne.out.symm, below_drewN BW.out _⟩
      · have hk2 : k = la.length := by omega
        have hE := Lib.hid (show decide (la = lb) = true by
          have := HE.out
          rw [hk2, List.take_of_length_le (by omega), List.take_of_length_le (by have := HL.out; omega)] at this
          simpa using this)
        have BW := Lib.hid bw
        clear hk2 pa pb bw
        go_wp2_with fail
        go_ret
        exact ⟨ret_bool hE.out.symm, BW.out⟩
  · have hlb : ((la.length : Int) != (lb.length : Int)) = true := by simp; omega
    have hne := Lib.hid (show decide (la = lb) = false by
      simp
      rintro rfl
      exact hlen rfl)
    clear ha hb hlen
    go_enter Try.func54, Try.ntmps54
    go_wp2_with fail
    go_ret
    exact ⟨ret_bool hne.out.symm, b0⟩
/-- The same default and pairs. -/
def sameB (a b : Lab) : Bool := decide (a.d = b.d) && decide (a.ps = b.ps)
set_option maxHeartbeats 400000 in
theorem lsame_any (va vb : Value) (a b : Lab) (w : World) (ha : LabV w w.heap.size va a) (hb : LabV w w.heap.size vb b) (hl : a.ps.length ≤ 1000000) :
    Calls Try.prog 31 #[va, vb] w fun e w' => e = .returned (.bool (sameB a b)) ∧ Below w.heap.size w w' := by
  obtain ⟨Aa, ca, rfl, pa, la⟩ := ha
  obtain ⟨Ab, cb, rfl, pb, lb⟩ := hb
  have b0 := ((Below.refl w.heap.size w).alloc (Nat.le_refl _) (.cells #[.int .i64 a.d, .slice Aa a.ps.length ca] 34)).alloc (by simp) (.cells #[.int .i64 b.d, .slice Ab b.ps.length cb] 34)
  have hb0 : sameB a b = (decide (a.d = b.d) && decide (a.ps = b.ps)) := rfl
  by_cases hd : a.d = b.d
  · have hdb : (a.d == b.d) = true := by simpa using hd
    have HD := Lib.hid (show sameB a b = decide (a.ps = b.ps) by rw [hb0, decide_eq_true hd]; rfl)
    clear hb0 hd
    have pa1 := pa.below b0
    have pb1 := pb.below b0
    go_enter Try.func31, Try.ntmps31
    go_wp2_with fail
    generalize (w.alloc (.cells #[.int .i64 a.d, .slice Aa a.ps.length ca] 34)).alloc (.cells #[.int .i64 b.d, .slice Ab b.ps.length cb] 34) = w1 at *
    refine (equal_any Aa Ab ca cb w.heap.size a.ps b.ps w1 pa1 pb1 hl).mono ?_
    rintro e w2 ⟨rfl, hb2⟩
    clear pa pb pa1 pb1
    go_wp2_with fail
    go_ret
    exact ⟨ret_bool HD.out.symm, b0.trans (hb2.mono b0.size)⟩
  · have hdb : (a.d == b.d) = false := by simpa using hd
    have HD := Lib.hid (show sameB a b = false by rw [hb0, decide_eq_false hd]; rfl)
    clear hb0 hd pa pb
    go_enter Try.func31, Try.ntmps31
    go_wp2_with fail
    go_ret
    exact ⟨ret_bool HD.out.symm, b0⟩
end Go.Proofs.Ytbeeiecbbmiojaa.Lb
