/- Ytt: Remove of a name that is not there -/
import Derived.Test.YtbeeiecbbmiojaaYts
namespace Go.Proofs.Ytbeeiecbbmiojaa.Y
open Go.RowKit Go.ChangeShapes Go.WideShapes Go.ChangeAt Go.ChangeMaps Go.MapKept

set_option maxRecDepth 100000 in
/-- A name that is not there is not taken away. -/
theorem cRem0 {w : World} {B gT gM : Nat} {t : Tab} {kv : Nat → Value} (hT : TabAt w B gT gM t kv) {n : Int} (hgl : t.tm.lookup n = none) : Calls Try.prog 16 #[ptrV gT, .int .u64 n] w fun e w' => ∃ v, e = .returned v ∧ v = .slice none 0 0 ∧ Below w.heap.size w w' := by
  have z0 : OnlyB (fun _ => False) w w := OnlyB.refl _ _
  go_enter Try.func16, Try.ntmps16
  refine wp_seq ?_
  refine wp_region_lit ?_
  refine with_st (st0 (U := False) (N := 82) (e := [(0, true, .val (ptrV gT)), (1, true, .val (.int .u64 n))]) (F := noF) rfl rfl (fok_no _ _) ⟨⟨rfl, rfl⟩, ⟨⟨rfl, rfl⟩, True.intro⟩⟩) fun s0 => ?_
  show wpList _ _ _ (_ :: _) _ _
  refine alloc_on (u := 28) (z := #[.int .u64 n]) s0 (by simp [Region.wanted]) rfl (by decide) (bx_28 _ _ (s0.get 1 rfl)) (vv 0 rfl vn) fun gb a1 w1 hb hgb b1 s1 => ?_
  have z1 := z0.below b1
  have hT := hT.below b1
  refine chainK 1 (cc rfl (p_assign g0 (oc _)) cn) (by kernel_rfl) s1 fun a2 w2 b2 s2 => ?_
  have z2 := z1.below b2
  have hT := hT.below b2
  have hb := hb.below b2 hb.lt
  refine wpList_done ?_
  refine wp_seq ?_
  have s2 := s2.more 0 (y := .tab gT gM 104 t.vals) (at_tab hT (s2.get 0 rfl))
  have s2 := s2.more 3 (y := .bp gb 28 #[.int .u64 n] 0) (at_obj hb (s2.get 3 rfl))
  refine flowC mixed (s2.keep (sc 0 rfl (sc 3 rfl (sc 4 rfl sn)))) (by kernel_rfl) (by kernel_rfl) (cc rfl (p_move g0 (od rfl id))
      (cc rfl (p_nilT g0 (od rfl id))
      (cc rfl (p_faT fa_104_0 g0 (od rfl id))
      (cc rfl (p_ldT ld_102 g0 (od rfl id))
      (cc rfl (p_ldB ld_28 rfl g0 (od rfl id))
      (cc rfl (p_lookO Try.underlying102 Try.underlying28 zero27 (tab_look _ _) g0 (od rfl id) (od rfl id))
      (cc rfl (p_assign g0 (od rfl id)) cn))))))) fun a3 w3 b3 s3 => ?_
  have z3 := z2.below b3
  have hT := hT.below b3
  have hb := hb.below b3 hb.lt
  rw [hgl] at s3
  refine wp_seq ?_
  refine wp_seq ?_
  refine flowC mixed (s3.keep (sc 0 rfl (sc 3 rfl (sc 4 rfl (sc 5 rfl sn))))) (by kernel_rfl) (by kernel_rfl) (cc rfl (p_move g0 (od rfl id))
      (cc rfl (p_bin g0 (od rfl id) (oc _) b_eqP) cn)) fun a4 w4 b4 s4 => ?_
  have z4 := z3.below b4
  have hT := hT.below b4
  have hb := hb.below b4 hb.lt
  refine s4.cond 18 rfl (fun _ => ?_) (fun h => absurd h (by simp))
  refine wp_seq ?_
  refine flowT (s4.keep (sc 0 rfl (sc 3 rfl (sc 4 rfl (sc 5 rfl sn))))) (by kernel_rfl) (cc rfl (p_assign g0 (oc _)) cn) fun a5 w5 b5 s5 => ?_
  have z5 := z4.below b5
  have hT := hT.below b5
  have hb := hb.below b5 hb.lt
  exact wp_ret (ret_o (fn := Try.f16) (R := fun v w' => v = .slice none 0 0 ∧ Below w.heap.size w w') (v := .slice none 0 0) s5 4 rfl rfl ⟨rfl, z5.to_below (fun _ _ h => h) (Nat.le_refl _)⟩)

end Go.Proofs.Ytbeeiecbbmiojaa.Y
