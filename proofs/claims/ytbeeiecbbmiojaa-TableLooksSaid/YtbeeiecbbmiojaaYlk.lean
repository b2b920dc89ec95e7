/- Ylk: an object's label and cost -/
import Derived.Test.YtbeeiecbbmiojaaYth
import Derived.Test.YtbeeiecbbmiojaaLYlab
import Derived.Test.YtbeeiecbbmiojaaYtq
namespace Go.Proofs.Ytbeeiecbbmiojaa.Y.Lb
open Go.Proofs.Ytbeeiecbbmiojaa.Lb
open Go.RowKit Go.ChangeShapes Go.WideShapes Go.ChangeAt Go.ChangeMaps Go.MapKept

abbrev lkC (k : Int) (u v : Value) : List Value := [.slice none 0 0, .int .u64 0, .int .u64 3, .int .i64 k, u, v, .int .u64 0, .int .u64 0, .int .i64 0, .int .i64 0, .int .i64 0, .int .i64 0, .int .u64 0, .int .u64 0, .int .u64 0, .slice none 0 0, .slice none 0 0, .int .u64 0, .slice none 0 0, nilP, .int .i64 0, .slice none 0 0, .int .u64 0, .int .u64 0, .slice none 0 0, .slice none 0 0, .slice none 0 0, .slice none 0 0, .slice none 0 0, .slice none 0 0, .slice none 0 0, .slice none 0 0, .int .i64 0, .int .i64 0, .int .i64 0, .slice none 0 0]
/-- An object of which the kind and the label are known. -/
def lkL : Lay (Int × Lab) := ⟨36, fun w F cs x => ∃ u v, cs = lkC x.1 u v ∧ (labL 60).on w F [u, v] x.2, by rintro _ _ _ _ ⟨u, v, rfl, _⟩; rfl, (by
  rintro _ _ _ _ ⟨u, v, rfl, h⟩ y hy
  have h1 := (labL 60).one h
  simp only [List.mem_cons, List.not_mem_nil, or_false] at hy
  rcases hy with rfl | rfl | rfl | rfl | rfl | rfl | rfl | rfl | rfl | rfl | rfl | rfl | rfl | rfl | rfl | rfl | rfl | rfl | rfl | rfl | rfl | rfl | rfl | rfl | rfl | rfl | rfl | rfl | rfl | rfl | rfl | rfl | rfl | rfl | rfl | rfl <;> first | rfl | exact h1 _ (by simp)), fun ⟨u, v, e, h⟩ hk hF => ⟨u, v, e, (labL 60).mono h hk hF⟩⟩
theorem pt48_2 : Part lkL (Lay.int .i64) 3 (fun x => x.1) := by
  rintro w F cs ⟨k, l⟩ ⟨u, v, rfl, h⟩
  exact ⟨[.slice none 0 0, .int .u64 0, .int .u64 3], [.int .i64 k], [u, v, .int .u64 0, .int .u64 0, .int .i64 0, .int .i64 0, .int .i64 0, .int .i64 0, .int .u64 0, .int .u64 0, .int .u64 0, .slice none 0 0, .slice none 0 0, .int .u64 0, .slice none 0 0, nilP, .int .i64 0, .slice none 0 0, .int .u64 0, .int .u64 0, .slice none 0 0, .slice none 0 0, .slice none 0 0, .slice none 0 0, .slice none 0 0, .slice none 0 0, .slice none 0 0, .slice none 0 0, .int .i64 0, .int .i64 0, .int .i64 0, .slice none 0 0], rfl, rfl, rfl⟩
theorem pt48_3 : Part lkL (labL 60) 4 (fun x => x.2) := by
  rintro w F cs ⟨k, l⟩ ⟨u, v, rfl, h⟩
  exact ⟨[.slice none 0 0, .int .u64 0, .int .u64 3, .int .i64 k], [u, v], [.int .u64 0, .int .u64 0, .int .i64 0, .int .i64 0, .int .i64 0, .int .i64 0, .int .u64 0, .int .u64 0, .int .u64 0, .slice none 0 0, .slice none 0 0, .int .u64 0, .slice none 0 0, nilP, .int .i64 0, .slice none 0 0, .int .u64 0, .int .u64 0, .slice none 0 0, .slice none 0 0, .slice none 0 0, .slice none 0 0, .slice none 0 0, .slice none 0 0, .slice none 0 0, .slice none 0 0, .int .i64 0, .int .i64 0, .int .i64 0, .slice none 0 0], rfl, rfl, h⟩
theorem pt48_10 : Part lkL (Lay.sl (Lay.int .i64)) 16 (fun _ => ([] : List Int)) := by
  rintro w F cs ⟨k, l⟩ ⟨u, v, rfl, h⟩
  exact ⟨[.slice none 0 0, .int .u64 0, .int .u64 3, .int .i64 k, u, v, .int .u64 0, .int .u64 0, .int .i64 0, .int .i64 0, .int .i64 0, .int .i64 0, .int .u64 0, .int .u64 0, .int .u64 0, .slice none 0 0], [.slice none 0 0], [.int .u64 0, .slice none 0 0, nilP, .int .i64 0, .slice none 0 0, .int .u64 0, .int .u64 0, .slice none 0 0, .slice none 0 0, .slice none 0 0, .slice none 0 0, .slice none 0 0, .slice none 0 0, .slice none 0 0, .slice none 0 0, .int .i64 0, .int .i64 0, .int .i64 0, .slice none 0 0], rfl, rfl, none, 0, rfl, fun h => absurd h (by simp), Nat.le_refl _⟩
theorem pt40_0 : Part (Lay.sl (Lay.int .i64)) (Lay.sl (Lay.int .i64)) 0 (fun x => x) := Part.self _
theorem lab_nou {n : Nat} {l : Lab} {w : World} {F : Cell → Prop} {cs : List Value} (h : (labL n).on w F cs l) (x : Int) : Value.int .u32 x ∉ cs := by
  obtain ⟨⟨c1, c2, rfl, h1, A, c, h2, _⟩, _⟩ := h
  obtain rfl : c1 = [.int .i64 l.d] := h1
  subst h2
  simp
theorem nul {U : Prop} {n : Nat} {l : Lab} : U → ∀ {w : World} {F : Cell → Prop} {cs : List Value}, (labL n).on w F cs l → ∀ x : Int, Value.int .u32 x ∉ cs := fun _ => lab_nou
theorem nu34 {U : Prop} : U → ∀ (i : Nat) (x : Int), (#[.int .i64 0, .slice none 0 0] : Array Value)[i]? ≠ some (.int .u32 x) := fun _ i x => by
  rcases i with _ | _ | i <;> simp
theorem labL_more {m n : Nat} {l : Lab} {w : World} {F : Cell → Prop} {cs : List Value} (h : (labL m).on w F cs l) (hn : m ≤ n) : (labL n).on w F cs l := ⟨h.1, ⟨h.2.good, Nat.le_trans h.2.len hn⟩⟩
section
variable {d : Nat} {t : TypeId} {p : String} {af : Array Edge} {g : Option (Nat × Bool)} {x x2 : Operand}
theorem b_add_2 {a b : Int} : Run2 Try.prog ⟨some d, .binOp .add 2 x x2 2, t, p, af, g⟩ x x2 (.int .i64 a) (.int .i64 b) (.int .i64 (IntKind.i64.wrap (a + b))) := fun ev w h1 h2 => by go_simp
theorem b_eql_2 {a b : Int} : Run2 Try.prog ⟨some d, .binOp .eql 2 x x2 2, t, p, af, g⟩ x x2 (.int .i64 a) (.int .i64 b) (.bool (a == b)) := fun ev w h1 h2 => by go_simp
theorem cv_3_85 {a : Int} : Run1 Try.prog ⟨some d, .convert 3 85 x, t, p, af, g⟩ x (.int .i64 a) (.int .u32 (IntKind.u32.wrap a)) := fun ev w h1 => by go_simp
theorem al_34 : AllocRun Try.prog ⟨some d, .alloc 34, t, p, af, none⟩ 34 #[.int .i64 0, .slice none 0 0] := fun ev w => by go_simp
theorem fa_48_3 : FieldRun Try.prog ⟨some d, .fieldAddr 48 x 3, t, p, af, g⟩ x 4 := fun ev w b off h1 => by go_simp
theorem fa_48_10 : FieldRun Try.prog ⟨some d, .fieldAddr 48 x 10, t, p, af, g⟩ x 16 := fun ev w b off h1 => by go_simp
theorem fa_40_0 : FieldRun Try.prog ⟨some d, .fieldAddr 40 x 0, t, p, af, g⟩ x 0 := fun ev w b off h1 => by go_simp
theorem ld_22 : LoadRun Try.prog ⟨some d, .load 22 x, t, p, af, g⟩ x := fun ev w b off v h1 h2 => by go_simp
theorem b_eq135 {b off : Nat} : Run2 Try.prog ⟨some d, .binOp .eql 135 x x2 135, t, p, af, g⟩ x x2 (.pointer (some ⟨b, off, none⟩)) (.pointer none) (.bool false) := fun ev w h1 h2 => by go_simp
theorem nilRun48 {b off : Nat} (ev : Operand → Value) (w : World) (h : ev x = .pointer (some ⟨b, off, none⟩)) : (execOp ev ⟨some d, .nilCheck x, t, p, af, g⟩).run Try.prog w = .ok (.value (.pointer (some ⟨b, off, none⟩))) w := by simp [execOp, h, go_sem]
theorem bd48L {k : Int} : ∀ (ev : Operand → Value) (w : World) (u v : Value), (∀ z, ev (.const z) = z) → ev x = .int .i64 k → ev x2 = .agg #[u, v] → (execOp ev ⟨some d, .build 48 #[(1, .const (.int .u64 3)), (2, x), (3, x2)], t, p, af, g⟩).run Try.prog w = .ok (.value (.agg (lkC k u v).toArray)) w := fun ev w u v hc h1 h2 => by go_simp
section
variable {U : Prop} {ops : Array Oper} {Q : Exit → Act → World → Prop} {N : Nat} {e : Env} {c : Bool} {α : Type} {L : Lay α} {z : α}
theorem p_nilA (hg : GdE ops e g c) (hx : OpdE e c x (.at L z)) : Pays U Try.prog ops Q N e ⟨some d, .nilCheck x, t, p, af, g⟩ (c, .at L z) :=
  pVal hg fun e a w F hk => by
    obtain ⟨b, off, cs, h1, h2⟩ := hx a w F (fun s hs => hk s (by simp [Op.operands, hs])) e
    exact ⟨_, nilRun48 _ w h1, b, off, cs, rfl, h2⟩
theorem p_eqA (hg : GdE ops e g c) (hx : OpdE e c x (.at L z)) : Pays U Try.prog ops Q N e ⟨some d, .binOp .eql 135 x (.const (.pointer none)) 135, t, p, af, g⟩ (c, .bool false) :=
  pVal hg fun e a w F hk => by
    obtain ⟨b, off, cs, h1, h2⟩ := hx a w F (fun s hs => hk s (by simp [Op.operands, hs])) e
    exact ⟨_, b_eq135 _ w h1 rfl, rfl⟩
theorem p_bd48L {k : Int} {l : Lab} (hg : GdE ops e g c) (hx : OpdE e c x (.int .i64 k)) (hx2 : OpdE e c x2 (.st (labL 60) l)) : Pays U Try.prog ops Q N e ⟨some d, .build 48 #[(1, .const (.int .u64 3)), (2, x), (3, x2)], t, p, af, g⟩ (c, .st lkL (k, l)) :=
  pVal hg fun e a w F hk => by
    obtain ⟨cs, h1, h2⟩ := hx2 a w F (fun s hs => hk s (by simp [Op.operands, hs])) e
    have hl := (labL 60).len h2
    match cs, hl with
    | [u, v], _ => exact ⟨_, bd48L (k := k) _ w u v (fun _ => rfl) (hx a w F (fun s hs => hk s (by simp [Op.operands, hs])) e) h1, _, rfl, u, v, rfl, h2⟩
end
end
theorem Try.underlying34 : Try.prog.underlying 34 = some ((Try.prog.underlying 34).getD (.slice 0)) := by kernel_rfl
theorem ur_34 : ((Try.prog.underlying 34).getD (.slice 0)).isRow = true := by kernel_rfl
theorem sz_34 : (Try.prog.info? 34).map (·.size) = some 2 := by kernel_rfl
theorem f13 {U : Prop} : Fn U Try.prog 13 [] (.bool true) := fn0 fun w F hF => cFit.mono (by
  rintro _ w' ⟨v, rfl, rfl, hb⟩
  exact ⟨_, rfl, rfl, hb⟩)
def costK (k : Int) : Int := if k = 2 then 1 else if k = 3 then 9 else 1
def lookK (x : Int × Lab) : Lab := if x.1 = 3 ∨ x.1 = 5 then restL x.2 else x.2
theorem same_refl (a : Lab) : sameB a a = true := by unfold sameB; simp
set_option maxRecDepth 100000 in
theorem f55 {U : Prop}  : Fn U Try.prog 55 [.at (Lay.sl (Lay.int .i64)) ([] : List Int)] (.int .i64 0) := fn1 fun w F v0 h0 hF => by
  go_enter Try.func55, Try.ntmps55
  refine wp_seq ?_
  refine flowC mixed (st0 (U := U) (N := 10) (e := [(0, true, .at (Lay.sl (Lay.int .i64)) ([] : List Int))]) (F := F) rfl rfl hF ⟨⟨rfl, h0⟩, True.intro⟩) (by kernel_rfl) (by kernel_rfl) (cc rfl (p_assign g0 (oc _)) cn) fun a1 w1 b1 s1 => ?_
  have z1 := b1
  refine wp_seq ?_
  refine wp_seq ?_
  refine flowC mixed (s1.keep (sc 0 rfl (sc 2 rfl sn))) (by kernel_rfl) (by kernel_rfl) (cc rfl (p_move g0 (od rfl id))
      (cc rfl (p_eqA g0 (od rfl id)) cn)) fun a2 w2 b2 s2 => ?_
  have z2 := z1.trans (b2.mono z1.size)
  refine s2.cond 4 rfl (fun h => absurd h (by simp)) fun _ => ?_
  refine wp_skip ?_
  refine wp_seq ?_
  refine flowT (s2.keep (sc 0 rfl (sc 2 rfl sn))) (by kernel_rfl) (cc rfl (p_move g0 (od rfl id))
      (cc rfl (p_nilA g0 (od rfl id))
      (cc rfl (p_fieldAddr pt40_0 fa_40_0 g0 (od rfl id))
      (cc rfl (p_load1 rfl ld_22 g0 (od rfl id))
      (cc rfl (p_len ln_22 g0 (od rfl id))
      (cc rfl (p_assign g0 (od rfl id)) cn)))))) fun a3 w3 b3 s3 => ?_
  have z3 := z2.trans (b3.mono z2.size)
  exact wp_ret (ret_tmp (fn := Try.f55) s3 2 rfl rfl (fun _ h => h) z3)
set_option maxRecDepth 100000 in
theorem f33 {U : Prop} {x : Int × Lab} : Fn U Try.prog 33 [.at lkL x] (.int .i64 (costK x.1)) := fn1 fun w F v0 h0 hF => by
  go_enter Try.func33, Try.ntmps33
  refine wp_seq ?_
  refine flowC mixed (st0 (U := U) (N := 16) (e := [(0, true, .at lkL x)]) (F := F) rfl rfl hF ⟨⟨rfl, h0⟩, True.intro⟩) (by kernel_rfl) (by kernel_rfl) (cc rfl (p_assign g0 (oc _)) cn) fun a1 w1 b1 s1 => ?_
  have z1 := b1
  refine wp_seq ?_
  refine wp_seq ?_
  refine flowC mixed (s1.keep (sc 0 rfl (sc 2 rfl sn))) (by kernel_rfl) (by kernel_rfl) (cc rfl (p_move g0 (od rfl id))
      (cc rfl (p_nilA g0 (od rfl id))
      (cc rfl (p_fieldAddr pt48_2 fa_48_2 g0 (od rfl id))
      (cc rfl (p_loadI ld_3 g0 (od rfl id)) cn)))) fun a2 w2 b2 s2 => ?_
  have z2 := z1.trans (b2.mono z1.size)
  refine wp_block ?_
  refine wp_seq ?_
  refine flowC mixed (s2.keep (sc 0 rfl (sc 2 rfl (sc 6 rfl sn)))) (by kernel_rfl) (by kernel_rfl) (cc rfl (p_bin g0 (od rfl id) (oc _) b_eql_3)
      (cc rfl (p_assign g0 (od rfl id)) cn)) fun a3 w3 b3 s3 => ?_
  have z3 := z2.trans (b3.mono z2.size)
  refine s3.cond 7 rfl (fun h7 => ?_) (fun h7 => ?_)
  · -- true
    have k2 : x.1 = 2 := by simpa using h7
    refine wp_seq ?_
    refine flowT (s3.keep (sc 0 rfl (sc 2 rfl sn))) (by kernel_rfl) (cc rfl (p_move g0 (od rfl id))
        (cc rfl (p_nilA g0 (od rfl id))
        (cc rfl (p_fieldAddr pt48_10 fa_48_10 g0 (od rfl id))
        (cc rfl (p_call 55 g0 (ox (od rfl id) ox0) (fun _ _ => by kernel_rfl) f55)
        (cc rfl (p_bin g0 (oc _) (od rfl id) b_add_2)
        (cc rfl (p_assign g0 (od rfl id)) cn)))))) fun a4 w4 b4 s4 => ?_
    have z4 := z3.trans (b4.mono z3.size)
    have q2 := s4.get 2 rfl
    exact wp_ret (ret_tmp (fn := Try.f33) (s4.more 2 (y := .int .i64 (costK x.1)) (int_as (s4.get 2 rfl) (by unfold costK; rw [if_pos k2]; rfl))) 2 rfl rfl (fun _ h => h) z4)
  · -- false
    have k2 : ¬ x.1 = 2 := by simpa using h7
    refine wp_seq ?_
    refine flowC mixed (s3.keep (sc 2 rfl (sc 6 rfl sn))) (by kernel_rfl) (by kernel_rfl) (cc rfl (p_bin g0 (od rfl id) (oc _) b_eql_3)
        (cc rfl (p_assign g0 (od rfl id)) cn)) fun a5 w5 b5 s5 => ?_
    have z5 := z3.trans (b5.mono z3.size)
    refine s5.cond 14 rfl (fun h14 => ?_) (fun h14 => ?_)
    · -- true
      have k3 : x.1 = 3 := by simpa using h14
      refine wp_seq ?_
      refine flowT (s5.keep (sc 2 rfl sn)) (by kernel_rfl) (cc rfl (p_assign g0 (oc _)) cn) fun a6 w6 b6 s6 => ?_
      have z6 := z5.trans (b6.mono z5.size)
      have q2 := s6.get 2 rfl
      exact wp_ret (ret_tmp (fn := Try.f33) (s6.more 2 (y := .int .i64 (costK x.1)) (int_as (s6.get 2 rfl) (by unfold costK; rw [if_neg k2, if_pos k3]))) 2 rfl rfl (fun _ h => h) z6)
    · -- false
      have k3 : ¬ x.1 = 3 := by simpa using h14
      refine wp_skip ?_
      refine wp_seq ?_
      refine flowT (s5.keep (sc 2 rfl sn)) (by kernel_rfl) (cc rfl (p_assign g0 (oc _)) cn) fun a7 w7 b7 s7 => ?_
      have z7 := z5.trans (b7.mono z5.size)
      have q2 := s7.get 2 rfl
      exact wp_ret (ret_tmp (fn := Try.f33) (s7.more 2 (y := .int .i64 (costK x.1)) (int_as (s7.get 2 rfl) (by unfold costK; rw [if_neg k2, if_neg k3]))) 2 rfl rfl (fun _ h => h) z7)
set_option maxRecDepth 100000 in
theorem f32 {x : Int × Lab} : Fn True Try.prog 32 [.at lkL x] (.lb (lookK x) 120) := fn1 fun w F v0 h0 hF => by
  go_enter Try.func32, Try.ntmps32
  refine wp_seq ?_
  refine flowN mixed (st0 (U := True) (N := 24) (e := [(0, true, .at lkL x)]) (F := F) rfl rfl hF ⟨⟨rfl, h0⟩, True.intro⟩) (by kernel_rfl) (by kernel_rfl) (ca rfl (m_alloc al_34 nu34) cn) (by kernel_rfl) fun a1 w1 gs1 b1 s1 n1 hh1 m1 => ?_
  have z1 := b1
  obtain ⟨g2, rfl, p2, k2⟩ := made1 m1
  have hg2 := hh1 g2 (by simp)
  have s1 := s1.more 2 (y := .val (.pointer (some ⟨g2, 0, none⟩))) p2
  refine wp_seq ?_
  refine wp_seq ?_
  refine flowC mixed (s1.keep (sc 0 rfl (sc 2 rfl sn))) (by kernel_rfl) (by kernel_rfl) (cc rfl (p_move g0 (od rfl id))
      (cc rfl (p_nilA g0 (od rfl id))
      (cc rfl (p_fieldAddr pt48_2 fa_48_2 g0 (od rfl id))
      (cc rfl (p_loadI ld_3 g0 (od rfl id))
      (cc rfl (p_bin g0 (od rfl id) (oc _) b_eql_3)
      (cc rfl (p_move g0 (od rfl id))
      (cc rfl (p_move (g1 rfl rfl) (od rfl (fun _ => rfl)))
      (cc rfl (p_nilA (g1 rfl rfl) (od rfl id))
      (cc rfl (p_fieldAddr pt48_2 fa_48_2 (g1 rfl rfl) (od rfl id))
      (cc rfl (p_loadI ld_3 (g1 rfl rfl) (od rfl id))
      (cc rfl (p_bin (g1 rfl rfl) (od rfl id) (oc _) b_eql_3)
      (cc rfl (p_or g0 (od rfl id) (od rfl id)) cn)))))))))))) fun a2 w2 b2 s2 => ?_
  have z2 := z1.trans (b2.mono z1.size)
  have k2 := k2.below b2 k2.lt
  refine s2.cond 14 rfl (fun h14 => ?_) (fun h14 => ?_)
  · -- true
    have kk : x.1 = 3 ∨ x.1 = 5 := by simpa using h14
    refine wp_seq ?_
    refine flowR 5 mixed (s2.keep (sc 0 rfl (sc 2 rfl sn))) (by kernel_rfl) (by kernel_rfl) (cc rfl (p_move g0 (od rfl id))
        (cc rfl (p_nilA g0 (od rfl id))
        (cc rfl (p_fieldAddr pt48_3 fa_48_3 g0 (od rfl id))
        (cc rfl (p_load Try.underlying34 ur_34 sz_34 g0 (od rfl id))
        (cc rfl (p_call 30 g0 (ox (od rfl id) ox0) (fun _ _ => by kernel_rfl) (f63 (m := 60) (by decide))) cn))))) fun a3 w3 b3 s3 => ?_
    have z3 := z2.trans (b3.mono z2.size)
    have k2 := k2.below b3 k2.lt
    show wpList _ _ _ (_ :: _) _ _
    refine store_own 2 19 s3 rfl rfl rfl sz_34 rfl rfl k2 rfl (fun _ => .inr (by simp)) nul fun w4 c4 y4 q4 k2 l4 s4 => ?_
    have z4 := q4 _ _ z3 hg2
    have ek : lookK x = restL x.2 := if_pos kk
    rw [ek]
    exact wp_ret (ret_cell (L := labL 120) (fn := Try.f32) s4 2 rfl rfl Try.underlying34 ur_34 sz_34 k2 l4 (fun _ h => Or.inl h) z4)
  · -- false
    have kk : ¬ (x.1 = 3 ∨ x.1 = 5) := by simpa using h14
    refine wp_skip ?_
    refine wp_seq ?_
    refine flowR 4 mixed (s2.keep (sc 0 rfl (sc 2 rfl sn))) (by kernel_rfl) (by kernel_rfl) (cc rfl (p_move g0 (od rfl id))
        (cc rfl (p_nilA g0 (od rfl id))
        (cc rfl (p_fieldAddr pt48_3 fa_48_3 g0 (od rfl id))
        (cc rfl (p_load Try.underlying34 ur_34 sz_34 g0 (od rfl id)) cn)))) fun a5 w5 b5 s5 => ?_
    have z5 := z2.trans (b5.mono z2.size)
    have k2 := k2.below b5 k2.lt
    show wpList _ _ _ (_ :: _) _ _
    refine store_own 2 23 s5 rfl rfl rfl sz_34 rfl rfl k2 rfl (fun _ => .inr (by simp)) nul fun w6 c6 y6 q6 k2 l6 s6 => ?_
    have z6 := q6 _ _ z5 hg2
    have ek : lookK x = x.2 := if_neg kk
    rw [ek]
    exact wp_ret (ret_cell (L := labL 120) (fn := Try.f32) s6 2 rfl rfl Try.underlying34 ur_34 sz_34 k2 (labL_more l6 (by decide)) (fun _ h => Or.inl h) z6)

end Go.Proofs.Ytbeeiecbbmiojaa.Y.Lb
