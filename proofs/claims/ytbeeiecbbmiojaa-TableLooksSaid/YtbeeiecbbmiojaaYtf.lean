/- Ytf: New, Len, Get -/
import Derived.Test.YtbeeiecbbmiojaaYtops
namespace Go.Proofs.Ytbeeiecbbmiojaa.Y
open Go.RowKit Go.ChangeShapes Go.WideShapes Go.ChangeAt Go.ChangeMaps Go.MapKept

set_option maxRecDepth 100000 in
/-- A table of nothing. -/
theorem cNew {w : World} : Calls Try.prog 14 #[] w fun e w' => ∃ v, e = .returned v ∧ ∃ gT gM, v = ptrV gT ∧ TabAt w' w.heap.size gT gM ⟨[], fun _ => none⟩ (fun _ => .slice none 0 0) ∧ Below w.heap.size w w' := by
  have z0 : OnlyB (fun _ => False) w w := OnlyB.refl _ _
  go_enter Try.func14, Try.ntmps14
  refine wp_seq ?_
  refine flowC mixed (st0 (U := False) (N := 4) (e := []) (F := noF) rfl rfl (fok_no _ _) True.intro) (by kernel_rfl) (by kernel_rfl) (cc rfl (p_assign g0 (oc _)) cn) fun a1 w1 b1 s1 => ?_
  have z1 := z0.below b1
  refine wp_seq ?_
  refine wp_region_lit ?_
  refine with_st (s1.keep sn) fun s1 => ?_
  show wpList _ _ _ (_ :: _) _ _
  refine mk_on (e2 := []) .u64 s1 rfl rfl (by decide) rfl vn fun gM a2 w2 hm hM b2 s2 => ?_
  have hM := Nat.le_trans z1.size hM
  have z2 := z1.below b2
  refine chainK 1 (cc rfl (p_run1 (od rfl id) bd_104 (fun s h => by simp [Op.operands, h]) g0) cn) (by kernel_rfl) s2 fun a3 w3 b3 s3 => ?_
  have z3 := z2.below b3
  have hm := hm.below b3
  show wpList _ _ _ (_ :: _) _ _
  refine alloc_on (u := 104) (z := #[.map (some gM)]) s3 (by simp [Region.wanted]) rfl (by decide) (bx_104 _ _ _ (s3.get 2 rfl)) vn fun gT a4 w4 hB hgT b4 s4 => ?_
  have hgT := Nat.le_trans z3.size hgT
  have z4 := z3.below b4
  have hm := hm.below b4
  refine chainK 1 (cc rfl (p_assign g0 (od rfl id)) cn) (by kernel_rfl) s4 fun a5 w5 b5 s5 => ?_
  have z5 := z4.below b5
  have hm := hm.below b5
  have hB := hB.below b5 hB.lt
  refine wpList_done ?_
  exact wp_ret (ret_o (fn := Try.f14) (R := fun v w' => ∃ gT gM, v = ptrV gT ∧ TabAt w' w.heap.size gT gM ⟨[], fun _ => none⟩ (fun _ => .slice none 0 0) ∧ Below w.heap.size w w') (v := ptrV gT) s5 0 rfl rfl ⟨gT, gM, rfl, ⟨hB, hm, (fun _ _ h => by cases h), (fun _ _ _ _ h => by cases h), hgT, hM, (fun _ _ h => by cases h)⟩, z5.to_below (fun _ _ h => h) (Nat.le_refl _)⟩)
set_option maxRecDepth 100000 in
/-- How many there are. -/
theorem cLen {w : World} {B gT gM : Nat} {t : Tab} {kv : Nat → Value} (hT : TabAt w B gT gM t kv) : Calls Try.prog 18 #[ptrV gT] w fun e w' => ∃ v, e = .returned v ∧ v = .int .i64 t.tm.length ∧ Below w.heap.size w w' := by
  have z0 : OnlyB (fun _ => False) w w := OnlyB.refl _ _
  go_enter Try.func18, Try.ntmps18
  refine wp_seq ?_
  refine flowC mixed (st0 (U := False) (N := 8) (e := [(0, true, .val (ptrV gT))]) (F := noF) rfl rfl (fok_no _ _) ⟨⟨rfl, rfl⟩, True.intro⟩) (by kernel_rfl) (by kernel_rfl) (cc rfl (p_assign g0 (oc _)) cn) fun a1 w1 b1 s1 => ?_
  have z1 := z0.below b1
  have hT := hT.below b1
  refine wp_seq ?_
  have s1 := s1.more 0 (y := .tab gT gM 104 t.vals) (at_tab hT (s1.get 0 rfl))
  refine flowT (s1.keep (sc 0 rfl (sc 2 rfl sn))) (by kernel_rfl) (cc rfl (p_move g0 (od rfl id))
      (cc rfl (p_nilT g0 (od rfl id))
      (cc rfl (p_faT fa_104_0 g0 (od rfl id))
      (cc rfl (p_ldT ld_102 g0 (od rfl id))
      (cc rfl (p_lenMO Try.underlying102 g0 (od rfl id))
      (cc rfl (p_assign g0 (od rfl id)) cn)))))) fun a2 w2 b2 s2 => ?_
  have z2 := z1.below b2
  have hT := hT.below b2
  rw [vals_len] at s2
  exact wp_ret (ret_o (fn := Try.f18) (R := fun v w' => v = .int .i64 t.tm.length ∧ Below w.heap.size w w') (v := .int .i64 t.tm.length) s2 2 rfl rfl ⟨rfl, z2.to_below (fun _ _ h => h) (Nat.le_refl _)⟩)
set_option maxRecDepth 100000 in
/-- The object of a name. -/
theorem cGet {w : World} {B gT gM : Nat} {t : Tab} {kv : Nat → Value} {n : Int} (hT : TabAt w B gT gM t kv) : Calls Try.prog 17 #[ptrV gT, .int .u64 n] w fun e w' => ∃ v, e = .returned v ∧ v = optP (t.tm.lookup n) ∧ Below w.heap.size w w' := by
  have z0 : OnlyB (fun _ => False) w w := OnlyB.refl _ _
  go_enter Try.func17, Try.ntmps17
  refine wp_seq ?_
  refine flowC mixed (st0 (U := False) (N := 11) (e := [(0, true, .val (ptrV gT)), (1, true, .val (.int .u64 n))]) (F := noF) rfl rfl (fok_no _ _) ⟨⟨rfl, rfl⟩, ⟨⟨rfl, rfl⟩, True.intro⟩⟩) (by kernel_rfl) (by kernel_rfl) (cc rfl (p_assign g0 (oc _)) cn) fun a1 w1 b1 s1 => ?_
  have z1 := z0.below b1
  have hT := hT.below b1
  refine wp_seq ?_
  have s1 := s1.more 0 (y := .tab gT gM 104 t.vals) (at_tab hT (s1.get 0 rfl))
  refine flowT (s1.keep (sc 0 rfl (sc 1 rfl (sc 4 rfl sn)))) (by kernel_rfl) (cc rfl (p_move g0 (od rfl id))
      (cc rfl (p_nilT g0 (od rfl id))
      (cc rfl (p_faT fa_104_0 g0 (od rfl id))
      (cc rfl (p_ldT ld_102 g0 (od rfl id))
      (cc rfl (p_move g0 (od rfl id))
      (cc rfl (p_lookO Try.underlying102 Try.underlying28 zero27 (tab_look _ _) g0 (od rfl id) (od rfl id))
      (cc rfl (p_assign g0 (od rfl id)) cn))))))) fun a2 w2 b2 s2 => ?_
  have z2 := z1.below b2
  have hT := hT.below b2
  exact wp_ret (ret_o (fn := Try.f17) (R := fun v w' => v = optP (t.tm.lookup n) ∧ Below w.heap.size w w') (v := optP (t.tm.lookup n)) s2 4 rfl rfl ⟨rfl, z2.to_below (fun _ _ h => h) (Nat.le_refl _)⟩)

end Go.Proofs.Ytbeeiecbbmiojaa.Y
