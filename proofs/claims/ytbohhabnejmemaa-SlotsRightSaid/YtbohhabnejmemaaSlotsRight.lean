/- The law SlotsRight: for every table the call returns true: a table has 1 to 8 slots of 1 to 16 ticks. No condition. -/
import Derived.Test.YtbohhabnejmemaaFit17
import Derived.Test.YtbohhabnejmemaaOpen
namespace Go.Proofs.Ytbohhabnejmemaa
open Go.RowKit Go.ChangeShapes Go.WideShapes

def SlotR (_w : World) (_B : Nat) (cs : List Value) (x : Int × Int) : Prop := cs = [.int .u64 x.1, .int .i64 x.2]

theorem open_slotR {H : Type} {enc : TypeId × Value → H} {w : World} {B fuel : Nat} {cs : List Value} {d : DataW H} {ps : List MemPlace}
    (h : DataW.trod enc Try.prog w 0 (fun _ => true) true fuel 32 cs = some (d, ps)) : ∃ x, SlotR w B cs x := by
  obtain ⟨xs, n, _, _, hl, hxs, hf⟩ := DataW.trod_struct Try.underlying32 h
  have hc : Try.prog.cellsOf 32 = 2 := by kernel_rfl
  have h1 : Try.prog.cellsOf 26 = 1 := by kernel_rfl
  have h2 : Try.prog.cellsOf 3 = 1 := by kernel_rfl
  rw [hc] at hl
  match cs, hl with
  | [c0, c1], _ =>
    have g0 := hf 0 _ rfl
    have g1 := hf 1 _ rfl
    rw [List.getElem?_eq_getElem (by rw [hxs]; decide)] at g0 g1
    obtain ⟨a, ha, _, _⟩ := DataW.trod_int Try.underlying26 g0
    obtain ⟨b, hb, _, _⟩ := DataW.trod_int Try.underlying3 g1
    simp [h1, h2] at ha hb
    exact ⟨(a, b), by rw [SlotR, ha, hb]⟩

theorem slotsAt_of {w : World} {B : Nat} {A : Option Addr} {l : List (Int × Int)} (h : SliceR 2 SlotR w B A l) : SlotsAt w B A l := fun hl => by
  obtain ⟨b, off, e, hb, hc⟩ := h hl
  refine ⟨b, off, e, hb, fun k hk => ?_⟩
  obtain ⟨cs, h1, h2, h3⟩ := hc k hk
  unfold SlotR at h3
  subst h3
  exact ⟨by simpa using h2 0 (by simp), by simpa using h2 1 (by simp)⟩

def SoFar (w0 : Bool) (l : List (Int × Int)) (k : Nat) (t : Value) : Prop := t = .bool (w0 && (l.take k).all slotOk)

set_option maxHeartbeats 800000 in
theorem slotsRight_walk (A : Option Addr) (c : Nat) (l : List (Int × Int)) (w : World) (h : SlotsAt w w.heap.size A l) (hm : l.length ≤ 9223372036854775807) :
    Calls Try.prog 6 #[.slice A l.length c] w fun e w' => e = .returned (.bool true) ∧ Below w.heap.size w w' := by
  by_cases hbig : 1000 < l.length
  · go_enter Try.func6, Try.ntmps6
    go_wp2_with (go_at_call 10; refine (fit17 _).mono ?_; rintro e w1 ⟨rfl, hb1⟩)
    go_ret
    exact ⟨rfl, hb1⟩
  · obtain ⟨w0, hw0⟩ : ∃ w0, Hid (w0 = decide (1 ≤ l.length ∧ l.length ≤ 8)) := ⟨_, rfl⟩
    have hw : (1 ≤ l.length ∧ l.length ≤ 8) ∨ (1 ≤ l.length ∧ ¬ l.length ≤ 8) ∨ ¬ 1 ≤ l.length := by omega
    rcases hw with ⟨h1, h8⟩ | ⟨h1, h8⟩ | h1
    rotate_right
    · have hl : l = [] := List.eq_nil_of_length_eq_zero (by omega)
      subst hl
      go_enter Try.func6, Try.ntmps6
      go_wp2_with (go_at_call 10; refine (fit17 _).mono ?_; rintro e w1 ⟨rfl, hb1⟩)
      go_loopw [3, 21] (fun t i wr => i = .int .i64 0 ∧ t = .bool false ∧ Below w.heap.size w wr) (fun _ i _ => 0)
      case atStart => exact ⟨rfl, rfl, hb1⟩
      case round =>
        obtain ⟨rfl, rfl, hb⟩ := hrel
        go_wp2_with (go_at_call 18; refine (right_any _ _ [] _ (fun h => absurd h (by simp)) (by simp)).mono ?_; rintro e w2 ⟨rfl, hb2⟩)
        go_ret
        exact ⟨rfl, hb.trans (hb2.mono hb.size)⟩
    all_goals
      go_enter Try.func6, Try.ntmps6
      go_wp2_with (go_at_call 10; refine (fit17 _).mono ?_; rintro e w1 ⟨rfl, hb1⟩)
      go_loopw [3, 21] (fun t i wr => ∃ k : Nat, k ≤ l.length ∧ i = .int .i64 k ∧ SoFar w0 l k t ∧ Below w.heap.size w wr) (fun _ i _ => l.length - (intOf i).toNat)
      case atStart => exact ⟨0, Nat.zero_le _, rfl, by unfold SoFar; rw [hw0.out]; congr 1; rw [Bool.eq_iff_iff]; simp; try omega, hb1⟩
      case round =>
        obtain ⟨k, hk, rfl, ht, hb⟩ := hrel
        unfold SoFar at ht
        subst ht
        obtain ⟨b, HB⟩ : ∃ b, Hid (b = (w0 && (l.take k).all slotOk)) := ⟨_, rfl⟩
        rw [← HB.out]
        by_cases hlt : k < l.length
        · obtain ⟨b', off, rfl, hbB, hc⟩ := h (by omega)
          obtain ⟨h0, h1'⟩ := hc k hlt
          have e0 := (hb.cell (p := ⟨b', off + k * 2, none⟩) hbB).trans h0
          have e1 := (hb.cell (p := ⟨b', off + k * 2 + 1, none⟩) hbB).trans h1'
          have HS : Hid (∀ c, c = (b && slotOk l[k]) → SoFar w0 l (k + 1) (.bool c)) := fun c hc => by
            unfold SoFar
            rw [hc, HB.out, all_take_succ _ _ _ hlt, Bool.and_assoc]
          clear hc h0 h1' HB h
          cases b with
          | false =>
            go_wp2
            go_roundw
            case rel => exact ⟨k + 1, by omega, by go_num, HS.out _ rfl, hb.alloc hb.size _⟩
            case measure => simp [intOf]; omega
          | true =>
            by_cases h1' : 1 ≤ l[k].2
            · by_cases h16 : l[k].2 ≤ 16
              · go_wp2
                go_roundw
                case rel => exact ⟨k + 1, by omega, by go_num, HS.out _ (by simp [slotOk]; omega), hb.alloc hb.size _⟩
                case measure => simp [intOf]; omega
              · go_wp2
                go_roundw
                case rel => exact ⟨k + 1, by omega, by go_num, HS.out _ (by simp [slotOk]; omega), hb.alloc hb.size _⟩
                case measure => simp [intOf]; omega
            · go_wp2
              go_roundw
              case rel => exact ⟨k + 1, by omega, by go_num, HS.out _ (by simp [slotOk]; omega), hb.alloc hb.size _⟩
              case measure => simp [intOf]; omega
        · have hk' : k = l.length := by omega
          have HE : Hid ((slotsOk l == b) = true) := by
            show (_ == _) = true
            rw [HB.out, hw0.out, hk', List.take_length, slotsOk, Bool.and_comm]; simp
          clear hk' HB
          go_wp2_with (go_at_call 18; refine (right_any _ _ l _ ((h.below hb).more hb.size) hm).mono ?_; rintro e w2 ⟨rfl, hb2⟩)
          go_ret
          exact ⟨ret_bool HE.out, hb.trans (hb2.mono hb.size)⟩

set_option maxRecDepth 100000 in
theorem slotsRight_lifted (os : Os) (started : os.Started) (H : Type) (enc : TypeId × Value → H) :
    ReturnsInHanded {} Try.checked os 6 .any (Rows.slotsRightSpec.pre6 enc Try.prog Try.f6 Rows.slotsRightRow.domain false) (Rows.slotsRightSpec.post enc Try.prog Try.f6 false true false false) := by
  refine lifted_of (C := Try.checked) laidOut own started (by kernel_rfl) Try.func6 rfl Try.underlying4 (by kernel_rfl) rfl
    (fun ds hds => by match ds, hds with | [_], _ => rfl)
    (ChangeSpec.witness6 (enc := enc) (C := Try.checked) false ⟨#[], #[.slice none 0 0], []⟩ 8 (by kernel_rfl) (by kernel_rfl) (by kernel_rfl) (by kernel_rfl)) ?_
  intro W base args ds ps hval0 hA0 hlt
  have hval : ∀ (j : Nat) t v, Try.f6.params[j]? = some t → args[j]? = some v → Value.okWide Try.prog W .any base t v := hval0
  have hA : DataW.TrodAll enc Try.prog W 0 (fun _ => true) true Try.f6.params.toList args.toList ds ps := hA0
  rw [Try.params6] at hA hval
  obtain ⟨v0, vs0, d0, ds0, p0, q0, hargs, rfl, rfl, h0, r0⟩ := trodAll_cons hA
  obtain ⟨rfl, rfl, rfl⟩ := trodAll_nil r0
  obtain rfl : args = #[v0] := by cases args; simp_all
  obtain ⟨a, len, cap, rfl⟩ := okWide_slice Try.underlying24 (hval 0 24 v0 rfl rfl)
  obtain ⟨fuel, hf⟩ := h0
  obtain ⟨A, l, c, hcs, hm, hr⟩ := open_sliceR (R := SlotR) Try.underlying24 (show Try.prog.cellsOf 32 = 2 by kernel_rfl) (by omega) (fun _ _ _ _ h _ => open_slotR h) hf (fun x hx => hlt x (List.mem_append_left _ hx))
  simp [Value.cells] at hcs
  obtain ⟨rfl, rfl, rfl⟩ := hcs
  exact slotsRight_walk _ _ l W (slotsAt_of hr) hm

theorem slotsRight_holds : Rows.SlotsRightSaid :=
  OpenClaim.holds_of_wide 6 Try.f6 rfl rfl rfl rfl rfl rfl rfl ⟨rfl, rfl, rfl, rfl, rfl⟩ rfl rfl rfl rfl rfl (by kernel_rfl) Try.func6 (by kernel_rfl)
    (of_decide_eq_true (by kernel_rfl)) (by unfold Func.isWrapper; rw [if_neg (of_decide_eq_false (by kernel_rfl))]; exact ⟨rfl, rfl⟩)
    (fun os started H enc _ => slotsRight_lifted os started H enc)

#print axioms slotsRight_holds
end Go.Proofs.Ytbohhabnejmemaa
