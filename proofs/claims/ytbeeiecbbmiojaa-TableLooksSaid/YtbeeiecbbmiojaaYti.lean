/- Yti: (*Table).In -/
import Derived.Test.YtbeeiecbbmiojaaYta
namespace Go.Proofs.Ytbeeiecbbmiojaa.Y
open Go.RowKit Go.ChangeShapes Go.WideShapes Go.ChangeAt Go.ChangeMaps Go.MapKept

/-- Is an object in a container, by so many steps? -/
def inF (t : Tab) (nm c : Int) : Nat → Int → Option Bool
  | 0, _ => none
  | k + 1, n => if n = 0 then some false else if n = c then some (t.tm.lookup nm).isSome else match t.tm.lookup n with
    | none => some false
    | some g => match t.ob g with
      | none => none
      | some o => inF t nm c k o.home
theorem in_0 {t : Tab} {nm c : Int} {k : Nat} {b : Bool} (h : inF t nm c k 0 = some b) : b = false := by
  cases k with
  | zero => cases h
  | succ k => simp [inF] at h; exact h
theorem in_c {t : Tab} {nm c n : Int} {k : Nat} {b : Bool} (h : inF t nm c k n = some b) (h0 : n ≠ 0) (hc : n = c) : b = (t.tm.lookup nm).isSome := by
  cases k with
  | zero => cases h
  | succ k => rw [inF, if_neg h0, if_pos hc] at h; injection h with h; exact h.symm
theorem in_none {t : Tab} {nm c n : Int} {k : Nat} {b : Bool} (h : inF t nm c k n = some b) (h0 : n ≠ 0) (hc : n ≠ c) (hl : t.tm.lookup n = none) : b = false := by
  cases k with
  | zero => cases h
  | succ k => rw [inF, if_neg h0, if_neg hc, hl] at h; injection h with h; exact h.symm
theorem in_some {t : Tab} {nm c n : Int} {k : Nat} {b : Bool} {g : Nat} (h : inF t nm c k n = some b) (h0 : n ≠ 0) (hc : n ≠ c) (hl : t.tm.lookup n = some g) : ∃ o k', t.ob g = some o ∧ k' < k ∧ inF t nm c k' o.home = some b := by
  cases k with
  | zero => cases h
  | succ k =>
    rw [inF, if_neg h0, if_neg hc, hl] at h
    cases ho : t.ob g with
    | none => simp [ho] at h
    | some o => simp only [ho] at h; exact ⟨o, k, rfl, Nat.lt_succ_self k, h⟩
abbrev InE (gT : Nat) (nm c n : Int) : Env := [(0, true, .val (ptrV gT)), (1, true, .val (.int .u64 nm)), (2, true, .val (.int .u64 c)), (7, true, .val (.int .u64 n))]
structure InK (w : World) (B gT gM : Nat) (t : Tab) (kv : Nat → Value) (nm c : Int) (b : Bool) (k : Nat) (n : Int) (a : Act) (wr : World) : Prop where
  tab : TabAt wr B gT gM t kv
  fuel : inF t nm c k n = some b
  only : OnlyB (fun _ => False) w wr
  st : StE False 37 (InE gT nm c n) noF a wr
set_option maxRecDepth 100000 in
/-- Is an object in a container? -/
theorem cIn {w : World} {B gT gM : Nat} {t : Tab} {kv : Nat → Value} {nm c : Int} {b : Bool} {k : Nat} (hk : inF t nm c k nm = some b) (hT : TabAt w B gT gM t kv) : Calls Try.prog 36 #[ptrV gT, .int .u64 nm, .int .u64 c] w fun e w' => ∃ v, e = .returned v ∧ v = .bool b ∧ Below w.heap.size w w' := by
  have z0 : OnlyB (fun _ => False) w w := OnlyB.refl _ _
  go_enter Try.func36, Try.ntmps36
  refine wp_seq ?_
  refine flowC mixed (st0 (U := False) (N := 37) (e := [(0, true, .val (ptrV gT)), (1, true, .val (.int .u64 nm)), (2, true, .val (.int .u64 c))]) (F := noF) rfl rfl (fok_no _ _) ⟨⟨rfl, rfl⟩, ⟨⟨rfl, rfl⟩, ⟨⟨rfl, rfl⟩, True.intro⟩⟩⟩) (by kernel_rfl) (by kernel_rfl) (cc rfl (p_assign g0 (oc _)) cn) fun a1 w1 b1 s1 => ?_
  have z1 := z0.below b1
  have hT := hT.below b1
  refine wp_seq ?_
  refine wp_seq ?_
  refine flowC mixed (s1.keep (sc 0 rfl (sc 1 rfl (sc 2 rfl (sc 6 rfl sn))))) (by kernel_rfl) (by kernel_rfl) (cc rfl (p_move g0 (od rfl id))
      (cc rfl (p_assign g0 (od rfl id)) cn)) fun a2 w2 b2 s2 => ?_
  have z2 := z1.below b2
  have hT := hT.below b2
  refine wp_block ?_
  refine wp_loopK (fun k a wr => ∃ n, InK w B gT gM t kv nm c b k n a wr) k ⟨nm, hT, hk, z2, s2.to _ ⟨rfl, rfl, rfl, rfl, True.intro⟩⟩ fun k a3 w3 hI => ?_
  obtain ⟨n, hT, hk, z3, s3⟩ := hI
  refine wp_seq ?_
  refine wp_seq ?_
  refine flowC mixed (s3.keep (sc 0 rfl (sc 1 rfl (sc 2 rfl (sc 7 rfl sn))))) (by kernel_rfl) (by kernel_rfl) (cc rfl (p_move g0 (od rfl id))
      (cc rfl (p_bin g0 (od rfl id) (oc _) b_neq_28) cn)) fun a4 w4 b4 s4 => ?_
  have z4 := z3.below b4
  have hT := hT.below b4
  refine s4.cond 10 rfl (fun h10 => ?_) (fun h10 => ?_)
  · -- true
    have hn0 : n ≠ 0 := by simpa using h10
    refine wp_skip ?_
    refine wp_seq ?_
    refine wp_block ?_
    refine wp_seq ?_
    refine wp_seq ?_
    refine flowC mixed (s4.keep (sc 0 rfl (sc 1 rfl (sc 2 rfl (sc 7 rfl (sc 9 rfl (sc 10 rfl sn))))))) (by kernel_rfl) (by kernel_rfl) (cc rfl (p_move g0 (od rfl id))
        (cc rfl (p_move g0 (od rfl id))
        (cc rfl (p_bin g0 (od rfl id) (od rfl id) b_eql_28) cn))) fun a5 w5 b5 s5 => ?_
    have z5 := z4.below b5
    have hT := hT.below b5
    refine s5.cond 22 rfl (fun h22 => ?_) (fun h22 => ?_)
    · -- true
      have hnc : n = c := by simpa using h22
      have hb := in_c hk hn0 hnc
      refine wp_seq ?_
      have s5 := s5.more 0 (y := .tab gT gM 104 t.vals) (at_tab hT (s5.get 0 rfl))
      refine flowC mixed (s5.keep (sc 0 rfl (sc 1 rfl (sc 2 rfl (sc 7 rfl (sc 9 rfl (sc 10 rfl (sc 20 rfl (sc 21 rfl (sc 22 rfl sn)))))))))) (by kernel_rfl) (by kernel_rfl) (cc rfl (p_move g0 (od rfl id))
          (cc rfl (p_nilT g0 (od rfl id))
          (cc rfl (p_faT fa_104_0 g0 (od rfl id))
          (cc rfl (p_ldT ld_102 g0 (od rfl id))
          (cc rfl (p_move g0 (od rfl id))
          (cc rfl (p_lookO Try.underlying102 Try.underlying28 zero27 (tab_look _ _) g0 (od rfl id) (od rfl id))
          (cc rfl (p_bin g0 (od rfl id) (oc _) b_neP)
          (cc rfl (p_assign g0 (od rfl id)) cn)))))))) fun a6 w6 b6 s6 => ?_
      have z6 := z5.below b6
      have hT := hT.below b6
      exact wp_ret (ret_o (fn := Try.f36) (R := fun v w' => v = .bool b ∧ Below w.heap.size w w') (v := .bool (t.tm.lookup nm).isSome) s6 6 rfl rfl ⟨by rw [hb], z6.to_below (fun _ _ h => h) (Nat.le_refl _)⟩)
    · -- false
      have hnc : n ≠ c := by simpa using h22
      refine wp_skip ?_
      refine wp_seq ?_
      have s5 := s5.more 0 (y := .tab gT gM 104 t.vals) (at_tab hT (s5.get 0 rfl))
      refine flowC mixed (s5.keep (sc 0 rfl (sc 1 rfl (sc 2 rfl (sc 7 rfl (sc 9 rfl (sc 10 rfl (sc 20 rfl (sc 21 rfl (sc 22 rfl sn)))))))))) (by kernel_rfl) (by kernel_rfl) (cc rfl (p_move g0 (od rfl id))
          (cc rfl (p_nilT g0 (od rfl id))
          (cc rfl (p_faT fa_104_0 g0 (od rfl id))
          (cc rfl (p_ldT ld_102 g0 (od rfl id))
          (cc rfl (p_move g0 (od rfl id))
          (cc rfl (p_lookO Try.underlying102 Try.underlying28 zero27 (tab_look _ _) g0 (od rfl id) (od rfl id))
          (cc rfl (p_bin g0 (od rfl id) (oc _) b_eqP) cn))))))) fun a7 w7 b7 s7 => ?_
      have z7 := z5.below b7
      have hT := hT.below b7
      refine s7.cond 36 rfl (fun h36 => ?_) (fun h36 => ?_)
      · -- true
        cases hl : t.tm.lookup n with
        | some g => rw [hl] at h36; cases h36
        | none =>
          have hb := in_none hk hn0 hnc hl
          refine wp_seq ?_
          refine flowC mixed (s7.keep (sc 0 rfl (sc 1 rfl (sc 2 rfl (sc 7 rfl (sc 9 rfl (sc 10 rfl (sc 20 rfl (sc 21 rfl (sc 22 rfl (sc 30 rfl (sc 31 rfl (sc 32 rfl (sc 33 rfl (sc 34 rfl (sc 35 rfl (sc 36 rfl sn))))))))))))))))) (by kernel_rfl) (by kernel_rfl) (cc rfl (p_assign g0 (oc _)) cn) fun a8 w8 b8 s8 => ?_
          have z8 := z7.below b8
          have hT := hT.below b8
          exact wp_ret (ret_o (fn := Try.f36) (R := fun v w' => v = .bool b ∧ Below w.heap.size w w') (v := .bool false) s8 6 rfl rfl ⟨by rw [hb], z8.to_below (fun _ _ h => h) (Nat.le_refl _)⟩)
      · -- false
        cases hl : t.tm.lookup n with
        | none => rw [hl] at h36; cases h36
        | some g =>
          obtain ⟨q, k2, hq, hk2, hi2⟩ := in_some hk hn0 hnc hl
          refine wp_skip ?_
          refine wp_region_lit ?_
          refine with_st (s7.keep (sc 0 rfl (sc 1 rfl (sc 2 rfl (sc 7 rfl sn))))) fun s7 => ?_
          refine chainK 6 (cc rfl (p_move g0 (od rfl id))
              (cc rfl (p_nilT g0 (od rfl id))
              (cc rfl (p_faT fa_104_0 g0 (od rfl id))
              (cc rfl (p_ldT ld_102 g0 (od rfl id))
              (cc rfl (p_move g0 (od rfl id))
              (cc rfl (p_lookO Try.underlying102 Try.underlying28 zero27 (tab_look _ _) g0 (od rfl id) (od rfl id)) cn)))))) (by kernel_rfl) s7 fun a9 w9 b9 s9 => ?_
          have z9 := z7.below b9
          have hT := hT.below b9
          rw [hl] at s9
          have s9 := s9.more 16 (y := .bp g 48 (toC q (kv g)) 0) (at_obj (hT.ob _ _ hq).blk (s9.get 16 rfl))
          have s9 := s9.keep (sc 0 rfl (sc 1 rfl (sc 2 rfl (sc 16 rfl sn))))
          refine chainT (t := []) (cc rfl (p_nilB g0 (od rfl id))
              (cc rfl (p_faB fa_48_4 g0 (od rfl id))
              (cc rfl (p_ldB ld_28 rfl g0 (od rfl id))
              (cc rfl (p_assign g0 (od rfl id)) cn)))) (by kernel_rfl) s9 fun a10 w10 b10 s10 => wpList_done ?_
          have z10 := z9.below b10
          have hT := hT.below b10
          have s10 := s10.more 0 (y := .val (ptrV gT)) (s10.get 0 rfl).1
          exact ⟨k2, hk2, q.home, hT, hi2, z10, s10.to _ ⟨rfl, rfl, rfl, rfl, True.intro⟩⟩
  · -- false
    obtain rfl : n = 0 := by simpa using h10
    have hb := in_0 hk
    refine wp_exit ?_
    refine wp_seq ?_
    refine flowC mixed (s4.keep (sc 0 rfl (sc 1 rfl (sc 2 rfl (sc 7 rfl sn))))) (by kernel_rfl) (by kernel_rfl) (cc rfl (p_assign g0 (oc _)) cn) fun a11 w11 b11 s11 => ?_
    have z11 := z4.below b11
    have hT := hT.below b11
    exact wp_ret (ret_o (fn := Try.f36) (R := fun v w' => v = .bool b ∧ Below w.heap.size w w') (v := .bool false) s11 6 rfl rfl ⟨by rw [hb], z11.to_below (fun _ _ h => h) (Nat.le_refl _)⟩)

end Go.Proofs.Ytbeeiecbbmiojaa.Y
