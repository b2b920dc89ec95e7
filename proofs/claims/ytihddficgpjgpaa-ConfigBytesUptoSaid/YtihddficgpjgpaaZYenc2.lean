/- Yenc2: a configuration's bytes, whole -/
import Derived.Test.YtihddficgpjgpaaZYenc
namespace Go.Proofs.Ytihddficgpjgpaa.Y
open Go.RowKit Go.ChangeShapes Go.WideShapes Go.ChangeAt
section
variable {d : Nat} {t : TypeId} {p : String} {af : Array Edge} {g : Option (Nat × Bool)} {x x2 : Operand}
theorem b_eql_9 {a b : List Int} (ha : Pk.Byt a) (hb : Pk.Byt b) : Run2 Try.prog ⟨some d, .binOp .eql 9 x x2 9, t, p, af, g⟩ x x2 (.string (Pk.strOf a)) (.string (Pk.strOf b)) (.bool (decide (a = b))) := fun ev w h1 h2 => by
  have HE := Pk.strOf_beq ha hb
  rw [← HE]
  clear HE
  go_simp
theorem b_neq_9 {a b : List Int} (ha : Pk.Byt a) (hb : Pk.Byt b) : Run2 Try.prog ⟨some d, .binOp .neq 9 x x2 9, t, p, af, g⟩ x x2 (.string (Pk.strOf a)) (.string (Pk.strOf b)) (.bool (!decide (a = b))) := fun ev w h1 h2 => by
  have HE := Pk.strOf_beq ha hb
  rw [← HE]
  clear HE
  go_simp
theorem p_str {U : Prop} {ops : Array Oper} {Q : Exit → Act → World → Prop} {N : Nat} {e : Env} {c : Bool} {l : List Int} (hg : GdE ops e g c) (hx : OpdE e c x (.by l)) : Pays U Try.prog ops Q N e ⟨some d, .convert 22 9 x, t, p, af, g⟩ (c, .val (.string (Pk.strOf l))) :=
  pVal hg fun e a w F hk => by
    obtain ⟨A, cp, e1, h2, _⟩ := by_in (hx a w F (fun s hs => hk s (by simp [Op.operands, hs])) e)
    refine ⟨_, ?_, rfl⟩
    have := Pk.run_str w h2 cp
    simp only [execOp, e1, Sem.run_bind, this, Result.andThen_ok]
    rfl
end
def cfH (c : Cf) : List Int := Pk.putL 1 c.co ++ Pk.putL 2 c.fr ++ Pk.putL 4 c.nm ++ Pk.putL 1 (c.sl.length : Int)
def cfH2 (c : Cf) : List Int := cfH c ++ c.sl.flatMap slB ++ Pk.putL 1 (c.obs.length : Int)
theorem cf_split (c : Cf) : cfB c = cfH2 c ++ c.obs.flatMap obB := by unfold cfB cfH2 cfH; simp only [List.append_assoc]
theorem slB_length (s : Int × Int) : (slB s).length = 2 := by unfold slB; simp only [List.length_append, Pk.putL_length]
theorem slsB_length : ∀ l : List (Int × Int), (l.flatMap slB).length = 2 * l.length
  | [] => rfl
  | m :: t => by rw [List.flatMap_cons, List.length_append, slB_length, slsB_length t, List.length_cons]; omega
theorem take_pre (c : Cf) (i : Nat) : (cfH2 c ++ (c.obs.take i).flatMap obB).length ≤ (cfB c).length := by
  rw [cf_split]
  conv => rhs; rw [← List.take_append_drop i c.obs, List.flatMap_append]
  simp only [List.length_append]
  omega
theorem cfH_length (c : Cf) : (cfH c).length = 8 := by unfold cfH; simp only [List.length_append, Pk.putL_length]
theorem byt_flat {α : Type} {f : α → List Int} {l : List α} (h : ∀ x ∈ l, Pk.Byt (f x)) : Pk.Byt (l.flatMap f) := fun y hy => by
  obtain ⟨x, hx, hy⟩ := List.mem_flatMap.1 hy
  exact h x hx y hy
theorem labB_byt (l : Lab) : Pk.Byt (labB l) := by
  have := labsB_byt [l]
  unfold labsB at this
  simpa using this
theorem obB_byt {o : Ob} (h : TellO o) : Pk.Byt (obB o) := by
  have hO := okb_of h
  unfold obB
  refine byt_app (Pk.putL_byt _ _) (byt_app (Pk.putL_byt _ _) (byt_app (labB_byt _) ?_))
  unfold bdB
  split
  · exact byt_app (Pk.putL_byt _ _) (Pk.putL_byt _ _)
  · split
    · rename_i h2
      exact byt_app (Pk.putL_byt _ _) (byt_app (Pk.putL_byt _ _) (hO.b2 h2).2.2)
    · split
      · exact byt_app (Pk.putL_byt _ _) (byt_flat fun m _ => byt_app (Pk.putL_byt _ _) (byt_app (Pk.putL_byt _ _) (byt_app (Pk.putL_byt _ _) (byt_app (Pk.putL_byt _ _) (Pk.putL_byt _ _)))))
      · split
        · exact byt_app (labB_byt _) (byt_app (Pk.putL_byt _ _) (Pk.putL_byt _ _))
        · exact fun x hx => by cases hx
theorem cfB_byt {c : Cf} (h : TellC c) : Pk.Byt (cfB c) := by
  unfold cfB
  exact byt_app (Pk.putL_byt _ _) (byt_app (Pk.putL_byt _ _) (byt_app (Pk.putL_byt _ _) (byt_app (byt_app (Pk.putL_byt _ _) (byt_flat fun s _ => byt_app (Pk.putL_byt _ _) (Pk.putL_byt _ _))) (byt_app (Pk.putL_byt _ _) (byt_flat fun o ho => obB_byt (h.obs o ho))))))
attribute [local simp] Pk.putL_length cfH_length slsB_length
set_option maxRecDepth 100000 in
theorem f95 {U : Prop} {c : Cf} (hT : TellC c) (hl : (cfB c).length ≤ 100000) : Fn U Try.prog 95 [.st cfL c] (.by (cfB c)) := fn1 fun w F v0 h0 hF => by
  have eco := u64_id hT.co
  have efr := u64_id hT.fr
  have enm := u64_id hT.nm
  have esn := u64_id hT.sn
  have eon := u64_id hT.on
  have hs0 := hT.sn.2
  have ho0 := hT.on.2
  go_enter Try.func95, Try.ntmps95
  refine wp_seq ?_
  refine flowC mixed (st0 (U := U) (N := 62) (e := [(0, true, .st cfL c)]) (F := F) rfl rfl hF ⟨⟨rfl, h0⟩, True.intro⟩) (by kernel_rfl) (by kernel_rfl) (cc rfl (p_box bx_59 g0 (od rfl id))
      (cc rfl (p_assign g0 (oc _)) cn)) fun a1 w1 b1 s1 => ?_
  have z1 := b1
  refine wp_seq ?_
  refine flowC mixed (s1.keep (sc 1 rfl (sc 2 rfl sn))) (by kernel_rfl) (by kernel_rfl) (cc rfl (p_fieldAddr pt59_0 fa_59_0 g0 (od rfl id))
      (cc rfl (p_loadI ld_3 g0 (od rfl id))
      (cc rfl (p_conv g0 (od rfl id) (cv_id eco))
      (cc rfl (p_call 29 g0 (ox oc_nil (ox (oc _) (ox (od rfl id) ox0))) (fun _ _ => by kernel_rfl) (f29 (n := 1) (by simp) (by decide)))
      (cc rfl (p_assign g0 (od rfl id)) cn))))) fun a2 w2 b2 s2 => ?_
  have z2 := z1.trans (b2.mono z1.size)
  refine wp_seq ?_
  refine flowT (s2.keep (sc 1 rfl (sc 2 rfl (sc 3 rfl sn)))) (by kernel_rfl) (cc rfl (p_move g0 (od rfl id))
      (cc rfl (p_fieldAddr pt59_1 fa_59_1 g0 (od rfl id))
      (cc rfl (p_loadI ld_3 g0 (od rfl id))
      (cc rfl (p_conv g0 (od rfl id) (cv_id efr))
      (cc rfl (p_call 29 g0 (ox (od rfl id) (ox (oc _) (ox (od rfl id) ox0))) (fun _ _ => by kernel_rfl) (f29 (n := 2) (by first | omega | (simp; omega) | simp) (by decide)))
      (cc rfl (p_assign g0 (od rfl id)) cn)))))) fun a3 w3 b3 s3 => ?_
  have z3 := z2.trans (b3.mono z2.size)
  refine wp_seq ?_
  refine flowT (s3.keep (sc 1 rfl (sc 2 rfl (sc 3 rfl sn)))) (by kernel_rfl) (cc rfl (p_move g0 (od rfl id))
      (cc rfl (p_fieldAddr pt59_2 fa_59_2 g0 (od rfl id))
      (cc rfl (p_loadI ld_3 g0 (od rfl id))
      (cc rfl (p_conv g0 (od rfl id) (cv_id enm))
      (cc rfl (p_call 29 g0 (ox (od rfl id) (ox (oc _) (ox (od rfl id) ox0))) (fun _ _ => by kernel_rfl) (f29 (n := 4) (by first | omega | (simp; omega) | simp) (by decide)))
      (cc rfl (p_assign g0 (od rfl id)) cn)))))) fun a4 w4 b4 s4 => ?_
  have z4 := z3.trans (b4.mono z3.size)
  refine wp_seq ?_
  refine flowT (s4.keep (sc 1 rfl (sc 2 rfl (sc 3 rfl sn)))) (by kernel_rfl) (cc rfl (p_move g0 (od rfl id))
      (cc rfl (p_fieldAddr pt59_3 fa_59_3 g0 (od rfl id))
      (cc rfl (p_load1 rfl ld_53 g0 (od rfl id))
      (cc rfl (p_len ln_53 g0 (od rfl id))
      (cc rfl (p_conv g0 (od rfl id) (cv_id esn))
      (cc rfl (p_call 29 g0 (ox (od rfl id) (ox (oc _) (ox (od rfl id) ox0))) (fun _ _ => by kernel_rfl) (f29 (n := 1) (by first | omega | (simp; omega) | simp) (by decide)))
      (cc rfl (p_assign g0 (od rfl id)) cn))))))) fun a5 w5 b5 s5 => ?_
  have z5 := z4.trans (b5.mono z4.size)
  have s5 := s5.more 3 (y := .by (cfH c)) (s5.get 3 rfl)
  refine wp_seq ?_
  refine wp_seq ?_
  refine flowC mixed (s5.keep (sc 1 rfl (sc 2 rfl (sc 3 rfl sn)))) (by kernel_rfl) (by kernel_rfl) (cc rfl (p_fieldAddr pt59_3 fa_59_3 g0 (od rfl id))
      (cc rfl (p_load1 rfl ld_53 g0 (od rfl id))
      (cc rfl (p_len ln_53 g0 (od rfl id))
      (cc rfl (p_move g0 (oc _)) cn)))) fun a6 w6 b6 s6 => ?_
  have z6 := z5.trans (b6.mono z5.size)
  have s6 := s6.more 3 (y := .by (cfH c ++ (c.sl.take 0).flatMap slB)) (by simpa using s6.get 3 rfl)
  refine wp_block ?_
  refine wp_range c.sl.length 31 (fun i => [(3, true, .by (cfH c ++ (c.sl.take i).flatMap slB))]) (fun _ _ => True) (s6.keep (sc 31 rfl (sc 3 rfl (sc 1 rfl (sc 2 rfl (sc 29 rfl (sc 30 rfl sn))))))) z6 True.intro fun i a7 w7 hi1 s7 z7 x7 => ?_
  refine wp_seq ?_
  refine flowC mixed (s7.keep (sc 1 rfl (sc 2 rfl (sc 3 rfl (sc 29 rfl (sc 30 rfl (sc 31 rfl sn))))))) (by kernel_rfl) (by kernel_rfl) (cc rfl (p_bin g0 (od rfl id) (od rfl id) b_lss_3) cn) fun a8 w8 b8 s8 => ?_
  have z8 := z7.trans (b8.mono z7.size)
  refine wp_seq ?_
  refine s8.cond 32 rfl (fun h32 => ?_) (fun h32 => ?_)
  · -- true
    have hlt1 : i < c.sl.length := by simpa using h32
    obtain ⟨sx, es⟩ : ∃ x, c.sl[i]? = some x := ⟨_, List.getElem?_eq_getElem hlt1⟩
    have es2 := u64_id (hT.sl sx (List.mem_of_getElem? es)).2
    refine wp_skip ?_
    refine wp_seq ?_
    refine wp_block ?_
    refine wp_seq ?_
    refine flowQ 3 mixed (s8.keep (sc 1 rfl (sc 2 rfl (sc 3 rfl (sc 29 rfl (sc 30 rfl (sc 31 rfl (sc 32 rfl sn)))))))) (by kernel_rfl) (by kernel_rfl) (cc rfl (p_index ix_53 es g0 (od rfl id) (od rfl id))
        (cc rfl (p_load u_64 ur_64 sz_64 g0 (od rfl id))
        (ca rfl (m_alloc al_64 nu64) cn))) (by kernel_rfl) (ss rfl rfl rfl rfl puts_st sz_64 rfl rfl ss0) fun a9 w9 b9 s9 => ?_
    have z9 := z8.trans (b9.mono z8.size)
    refine flowR 8 mixed (s9.keep (sc 1 rfl (sc 2 rfl (sc 3 rfl (sc 5 rfl (sc 29 rfl (sc 30 rfl (sc 31 rfl (sc 32 rfl (sc 33 rfl (sc 34 rfl sn))))))))))) (by kernel_rfl) (by kernel_rfl) (cc rfl (p_move g0 (od rfl id))
        (cc rfl (p_fieldAddr pt64_0 fa_64_0 g0 (od rfl id))
        (cc rfl (p_loadI ld_23 g0 (od rfl id))
        (cc rfl (p_call 29 g0 (ox (od rfl id) (ox (oc _) (ox (od rfl id) ox0))) (fun _ _ => by kernel_rfl) (f29 (n := 1) (by simp only [List.length_append, cfH_length, slsB_length, List.length_take]; omega) (by decide)))
        (cc rfl (p_fieldAddr pt64_1 fa_64_1 g0 (od rfl id))
        (cc rfl (p_loadI ld_3 g0 (od rfl id))
        (cc rfl (p_conv g0 (od rfl id) (cv_id es2))
        (cc rfl (p_call 29 g0 (ox (od rfl id) (ox (oc _) (ox (od rfl id) ox0))) (fun _ _ => by kernel_rfl) (f29 (n := 1) (by simp only [List.length_append, Pk.putL_length, cfH_length, slsB_length, List.length_take]; omega) (by decide))) cn)))))))) fun a10 w10 b10 s10 => ?_
    have z10 := z9.trans (b10.mono z9.size)
    refine chainT (t := []) (cc rfl (p_assign g0 (od rfl id)) cn) (by kernel_rfl) s10 fun a11 w11 b11 s11 => wpList_done ?_
    have z11 := z10.trans (b11.mono z10.size)
    have s11 := s11.more 3 (y := .by (cfH c ++ (c.sl.take (i + 1)).flatMap slB)) (by rw [flat_succ es, ← List.append_assoc]; unfold slB; rw [← List.append_assoc]; exact s11.get 3 rfl)
    refine flowT (s11.keep (sc 1 rfl (sc 2 rfl (sc 3 rfl (sc 5 rfl (sc 29 rfl (sc 30 rfl (sc 31 rfl (sc 32 rfl (sc 33 rfl (sc 34 rfl (sc 35 rfl (sc 36 rfl (sc 37 rfl (sc 38 rfl (sc 39 rfl (sc 40 rfl (sc 41 rfl (sc 42 rfl sn))))))))))))))))))) (by kernel_rfl) (cc rfl (p_bin g0 (od rfl id) (oc _) (inc_3 (by omega)))
        (cc rfl (p_move g0 (od rfl id)) cn)) fun a12 w12 b12 s12 => ?_
    have z12 := z11.trans (b12.mono z11.size)
    exact ⟨hlt1, s12.to _ ⟨rfl, rfl, rfl, rfl, rfl, rfl, True.intro⟩, z12, True.intro⟩
  · -- false
    obtain rfl : i = c.sl.length := by have := of_decide_eq_false h32; (try dsimp only at this); omega
    have s8 := s8.more 3 (y := .by (cfH c ++ c.sl.flatMap slB)) (by have h := s8.get 3 rfl; rw [List.take_length] at h; exact h)
    refine wp_exit ?_
    refine wp_seq ?_
    refine flowT (s8.keep (sc 1 rfl (sc 2 rfl (sc 3 rfl (sc 29 rfl (sc 30 rfl (sc 31 rfl sn))))))) (by kernel_rfl) (cc rfl (p_move g0 (od rfl id))
        (cc rfl (p_fieldAddr pt59_4 fa_59_4 g0 (od rfl id))
        (cc rfl (p_load1 rfl ld_57 g0 (od rfl id))
        (cc rfl (p_len ln_57 g0 (od rfl id))
        (cc rfl (p_conv g0 (od rfl id) (cv_id eon))
        (cc rfl (p_call 29 g0 (ox (od rfl id) (ox (oc _) (ox (od rfl id) ox0))) (fun _ _ => by kernel_rfl) (f29 (n := 1) (by simp only [List.length_append, cfH_length, slsB_length]; omega) (by decide)))
        (cc rfl (p_assign g0 (od rfl id)) cn))))))) fun a13 w13 b13 s13 => ?_
    have z13 := z8.trans (b13.mono z8.size)
    have s13 := s13.more 3 (y := .by (cfH2 c)) (s13.get 3 rfl)
    refine wp_seq ?_
    refine wp_seq ?_
    refine flowC mixed (s13.keep (sc 1 rfl (sc 2 rfl (sc 3 rfl (sc 29 rfl (sc 30 rfl (sc 31 rfl sn))))))) (by kernel_rfl) (by kernel_rfl) (cc rfl (p_fieldAddr pt59_4 fa_59_4 g0 (od rfl id))
        (cc rfl (p_load1 rfl ld_57 g0 (od rfl id))
        (cc rfl (p_len ln_57 g0 (od rfl id))
        (cc rfl (p_move g0 (oc _)) cn)))) fun a14 w14 b14 s14 => ?_
    have z14 := z13.trans (b14.mono z13.size)
    have s14 := s14.more 3 (y := .by (cfH2 c ++ (c.obs.take 0).flatMap obB)) (by simpa using s14.get 3 rfl)
    refine wp_block ?_
    refine wp_range c.obs.length 53 (fun i => [(3, true, .by (cfH2 c ++ (c.obs.take i).flatMap obB))]) (fun _ _ => True) (s14.keep (sc 53 rfl (sc 3 rfl (sc 1 rfl (sc 2 rfl (sc 29 rfl (sc 30 rfl (sc 31 rfl (sc 51 rfl (sc 52 rfl sn)))))))))) z14 True.intro fun i a15 w15 hi2 s15 z15 x15 => ?_
    refine wp_seq ?_
    refine flowC mixed (s15.keep (sc 1 rfl (sc 2 rfl (sc 3 rfl (sc 29 rfl (sc 30 rfl (sc 31 rfl (sc 51 rfl (sc 52 rfl (sc 53 rfl sn)))))))))) (by kernel_rfl) (by kernel_rfl) (cc rfl (p_bin g0 (od rfl id) (od rfl id) b_lss_3) cn) fun a16 w16 b16 s16 => ?_
    have z16 := z15.trans (b16.mono z15.size)
    refine wp_seq ?_
    refine s16.cond 54 rfl (fun h54 => ?_) (fun h54 => ?_)
    · -- true
      have hlt2 : i < c.obs.length := by simpa using h54
      obtain ⟨o, eo⟩ : ∃ x, c.obs[i]? = some x := ⟨_, List.getElem?_eq_getElem hlt2⟩
      have hTo := hT.obs o (List.mem_of_getElem? eo)
      have hlo : ((cfH2 c ++ (c.obs.take i).flatMap obB) ++ obB o).length ≤ 100000 := by rw [List.append_assoc, ← flat_succ eo]; exact Nat.le_trans (take_pre c (i + 1)) hl
      refine wp_skip ?_
      refine wp_seq ?_
      refine wp_block ?_
      refine wp_seq ?_
      refine flowQ 3 mixed (s16.keep (sc 1 rfl (sc 2 rfl (sc 3 rfl (sc 29 rfl (sc 30 rfl (sc 31 rfl (sc 51 rfl (sc 52 rfl (sc 53 rfl (sc 54 rfl sn))))))))))) (by kernel_rfl) (by kernel_rfl) (cc rfl (p_index ix_57 eo g0 (od rfl id) (od rfl id))
          (cc rfl (p_load u_67 ur_67 sz_67 g0 (od rfl id))
          (ca rfl (m_alloc al_67 nu67) cn))) (by kernel_rfl) (ss rfl rfl rfl rfl puts_st sz_67 rfl rfl ss0) fun a17 w17 b17 s17 => ?_
      have z17 := z16.trans (b17.mono z16.size)
      refine flowT (s17.keep (sc 1 rfl (sc 2 rfl (sc 3 rfl (sc 7 rfl (sc 29 rfl (sc 30 rfl (sc 31 rfl (sc 51 rfl (sc 52 rfl (sc 53 rfl (sc 54 rfl (sc 55 rfl (sc 56 rfl sn)))))))))))))) (by kernel_rfl) (cc rfl (p_move g0 (od rfl id))
          (cc rfl (p_load u_67 ur_67 sz_67 g0 (od rfl id))
          (cc rfl (p_call 116 g0 (ox (od rfl id) (ox (od rfl id) ox0)) (fun _ _ => by kernel_rfl) (f116 hTo hlo))
          (cc rfl (p_assign g0 (od rfl id)) cn)))) fun a18 w18 b18 s18 => ?_
      have z18 := z17.trans (b18.mono z17.size)
      have s18 := s18.more 3 (y := .by (cfH2 c ++ (c.obs.take (i + 1)).flatMap obB)) (by rw [flat_succ eo, ← List.append_assoc]; exact s18.get 3 rfl)
      refine flowT (s18.keep (sc 1 rfl (sc 2 rfl (sc 3 rfl (sc 7 rfl (sc 29 rfl (sc 30 rfl (sc 31 rfl (sc 51 rfl (sc 52 rfl (sc 53 rfl (sc 54 rfl (sc 55 rfl (sc 56 rfl (sc 57 rfl (sc 58 rfl (sc 59 rfl sn))))))))))))))))) (by kernel_rfl) (cc rfl (p_bin g0 (od rfl id) (oc _) (inc_3 (by omega)))
          (cc rfl (p_move g0 (od rfl id)) cn)) fun a19 w19 b19 s19 => ?_
      have z19 := z18.trans (b19.mono z18.size)
      exact ⟨hlt2, s19.to _ ⟨rfl, rfl, rfl, rfl, rfl, rfl, rfl, rfl, rfl, True.intro⟩, z19, True.intro⟩
    · -- false
      obtain rfl : i = c.obs.length := by have := of_decide_eq_false h54; (try dsimp only at this); omega
      have s16 := s16.more 3 (y := .by (cfB c)) (by have h := s16.get 3 rfl; rw [List.take_length, ← cf_split] at h; exact h)
      refine wp_exit ?_
      refine wp_seq ?_
      refine flowT (s16.keep (sc 1 rfl (sc 2 rfl (sc 3 rfl (sc 29 rfl (sc 30 rfl (sc 31 rfl (sc 51 rfl (sc 52 rfl (sc 53 rfl sn)))))))))) (by kernel_rfl) (cc rfl (p_move g0 (od rfl id))
          (cc rfl (p_assign g0 (od rfl id)) cn)) fun a20 w20 b20 s20 => ?_
      have z20 := z16.trans (b20.mono z16.size)
      exact wp_ret (ret_tmp (fn := Try.f95) s20 2 rfl rfl (fun _ h => h) z20)
set_option maxRecDepth 100000 in
theorem f97 {U : Prop} {c d : Cf} (hT : TellC c) (hl : (cfB c).length ≤ 100000) (hT2 : TellC d) (hl2 : (cfB d).length ≤ 100000) : Fn U Try.prog 97 [.st cfL c, .st cfL d] (.bool (decide (cfB c = cfB d))) := fn2 fun w F v0 v1 h0 h1 hF => by
  go_enter Try.func97, Try.ntmps97
  refine wp_seq ?_
  refine flowC mixed (st0 (U := U) (N := 12) (e := [(0, true, .st cfL c), (1, true, .st cfL d)]) (F := F) rfl rfl hF ⟨⟨rfl, h0⟩, ⟨⟨rfl, h1⟩, True.intro⟩⟩) (by kernel_rfl) (by kernel_rfl) (cc rfl (p_box bx_59 g0 (od rfl id))
      (cc rfl (p_box bx_59 g0 (od rfl id))
      (cc rfl (p_assign g0 (oc _)) cn))) fun a1 w1 b1 s1 => ?_
  have z1 := b1
  refine wp_seq ?_
  refine flowC mixed (s1.keep (sc 2 rfl (sc 3 rfl sn))) (by kernel_rfl) (by kernel_rfl) (cc rfl (p_load u_59 ur_59 sz_59 g0 (od rfl id))
      (cc rfl (p_call 95 g0 (ox (od rfl id) ox0) (fun _ _ => by kernel_rfl) (f95 hT hl))
      (cc rfl (p_str g0 (od rfl id))
      (cc rfl (p_load u_59 ur_59 sz_59 g0 (od rfl id))
      (cc rfl (p_call 95 g0 (ox (od rfl id) ox0) (fun _ _ => by kernel_rfl) (f95 hT2 hl2))
      (cc rfl (p_str g0 (od rfl id))
      (cc rfl (p_bin g0 (od rfl id) (od rfl id) (b_eql_9 (cfB_byt hT) (cfB_byt hT2)))
      (cc rfl (p_assign g0 (od rfl id)) cn)))))))) fun a2 w2 b2 s2 => ?_
  have z2 := z1.trans (b2.mono z1.size)
  exact wp_ret (ret_tmp (fn := Try.f97) s2 4 rfl rfl (fun _ h => h) z2)
end Go.Proofs.Ytihddficgpjgpaa.Y
