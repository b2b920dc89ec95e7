/- Yta: (*Table).Add -/
import Derived.Test.YtbeeiecbbmiojaaMTa
import Derived.Test.YtbeeiecbbmiojaaRowsU
import Derived.Test.YtbeeiecbbmiojaaYcallv
namespace Go.Proofs.Ytbeeiecbbmiojaa.Y
open Go.RowKit Go.ChangeShapes Go.WideShapes Go.ChangeAt Go.ChangeMaps Go.MapKept

theorem ObjAt.below {w w' : World} {B g : Nat} {o : TO} {kv : Value} (h : ObjAt w B g o kv) (hb : Below w.heap.size w w') : ObjAt w' B g o kv := ⟨h.blk.below hb h.blk.lt, own_below h.row hb, fun x on hx => ⟨(h.th x on hx).1.below hb (h.th x on hx).1.lt, (h.th x on hx).2⟩⟩
theorem ObjAt.grown {w w' : World} {B g : Nat} {o : TO} {kv : Value} {r : Option Nat} (h : ObjAt w B g o kv) (hg : w.grownBy w' r) (h1 : some g ≠ r) (h2 : kv.ownBlock = none ∨ kv.ownBlock ≠ r) (h3 : ∀ x on, o.th = some (x, on) → some x ≠ r) : ObjAt w' B g o kv := ⟨h.blk.grown hg h1, h.row.kept hg h2, fun x on hx => ⟨(h.th x on hx).1.grown hg (h3 x on hx), (h.th x on hx).2⟩⟩
/-- Not the map's block, nor another object's row. -/
theorem ObjAt.grownM {w w' : World} {B g b : Nat} {o : TO} {l : List (Int × Value)} (h : ObjAt w B g o (.slice none 0 0)) (hm : MapAt w b .u64 l) (hg : w.grownBy w' (some b)) : ObjAt w' B g o (.slice none 0 0) :=
  h.grown hg (fun e => map_ne h.blk hm (by injection e)) (.inl rfl) (fun x on hx e => map_ne (h.th x on hx).1 hm (by injection e))
theorem ObjAt.grownR {w w' : World} {B B' g n : Nat} {o : TO} {v : Value} {xs : List Value} (h : ObjAt w B g o (.slice none 0 0)) (hr : w.ownsRow B' 28 1 v n xs) (hg : w.grownBy w' v.ownBlock) : ObjAt w' B g o (.slice none 0 0) :=
  h.grown hg (Ne.symm (row_ne h.blk hr (by decide))) (.inl rfl) (fun x on hx => Ne.symm (row_ne (h.th x on hx).1 hr (by decide)))
theorem ObjAt.grownO {w w' : World} {B g g2 : Nat} {o : TO} {cs : Array Value} (h : ObjAt w B g o (.slice none 0 0)) (hB : Blk w g2 48 cs) (hne : g ≠ g2) (hg : w.grownBy w' (some g2)) : ObjAt w' B g o (.slice none 0 0) :=
  h.grown hg (fun e => hne (by injection e)) (.inl rfl) (fun x on hx e => blk_ne (h.th x on hx).1 hB (by decide) (by injection e))
section
variable {U : Prop} {ops : Array Oper} {Q : Exit → Act → World → Prop} {N d : Nat} {e : Env} {t : TypeId} {p : String} {af : Array Edge} {g : Option (Nat × Bool)} {c : Bool} {x x2 : Operand} {b T k : Nat} {cs : Array Value}
theorem p_eqB (hg : GdE ops e g c) (hx : OpdE e c x (.bp b T cs 0)) : Pays U Try.prog ops Q N e ⟨some d, .binOp .eql 27 x (.const (.pointer none)) 27, t, p, af, g⟩ (c, .bool false) :=
  pVal hg fun e a w F hk => ⟨_, b_eqP (r := some b) _ w (hx a w F (fun s hs => hk s (by simp [Op.operands, hs])) e).1 rfl, rfl⟩
theorem p_neB (hg : GdE ops e g c) (hx : OpdE e c x (.bp b T cs 0)) : Pays U Try.prog ops Q N e ⟨some d, .binOp .neq 27 x (.const (.pointer none)) 27, t, p, af, g⟩ (c, .bool true) :=
  pVal hg fun e a w F hk => ⟨_, b_neP (r := some b) _ w (hx a w F (fun s hs => hk s (by simp [Op.operands, hs])) e).1 rfl, rfl⟩
end
theorem add_no {t : Tab} {o : TO} (h : (false || o.name == 0 || (t.tm.lookup o.name).isSome) = true) : addB t o = false := by
  unfold addB
  rw [Bool.false_or, Bool.or_eq_true] at h
  rcases h with h | h
  · have : o.name = 0 := by simpa using h
    simp [this]
  · cases hl : t.tm.lookup o.name with
    | none => rw [hl] at h; cases h
    | some _ => simp
theorem add_yes {t : Tab} {o : TO} (h : (false || o.name == 0 || (t.tm.lookup o.name).isSome) = false) : o.name ≠ 0 ∧ t.tm.lookup o.name = none ∧ addB t o = mayAdd t o := by
  rw [Bool.false_or, Bool.or_eq_false_iff] at h
  have h0 : o.name ≠ 0 := by simpa using h.1
  have h1 : t.tm.lookup o.name = none := by
    cases hl : t.tm.lookup o.name with
    | none => rfl
    | some _ => rw [hl] at h; cases h.2
  exact ⟨h0, h1, by unfold addB; rw [h1]; simp [h0]⟩
theorem home_none {t : Tab} {o : TO} (h : t.tm.lookup o.home = none) : homeOf t o = none := by unfold homeOf; rw [h]
theorem home_some {t : Tab} {o q : TO} {g : Nat} (h : t.tm.lookup o.home = some g) (hq : t.ob g = some q) : homeOf t o = some (g, q) := by unfold homeOf; rw [h]; simp [hq]
theorem may_none {t : Tab} {o : TO} (h : homeOf t o = none) : mayAdd t o = !(o.name != 1 || o.home != 0) := by
  unfold mayAdd; rw [h]
  cases h1 : o.name == 1 <;> cases h2 : o.home == 0 <;> simp [bne, h1, h2]
theorem may_some {t : Tab} {o q : TO} {g : Nat} (h : homeOf t o = some (g, q)) : mayAdd t o = !((false || q.kind != 1) && (o.name != 1 || o.home != 0)) := by
  unfold mayAdd; rw [h]
  cases h0 : q.kind == 1 <;> cases h1 : o.name == 1 <;> cases h2 : o.home == 0 <;> simp [bne, h0, h1, h2]
theorem addT_none {t : Tab} {o : TO} {g : Nat} (h : homeOf t o = none) : addT t g o = ⟨t.tm ++ [(o.name, g)], upd t.ob g (some o)⟩ := by unfold addT addO; rw [h]
theorem addT_some {t : Tab} {o q : TO} {g g2 : Nat} (h : homeOf t o = some (g2, q)) : addT t g o = ⟨t.tm ++ [(o.name, g)], upd (upd t.ob g2 (some { q with kids := q.kids ++ [o.name] })) g (some o)⟩ := by unfold addT addO; rw [h]
theorem tabB_more {gT gM g i : Nat} {t : Tab} {kv : Nat → Value} {o : TO} {tm : List (Int × Nat)} {v : Value} (hv : v.ownBlock = none) (h : TabB gT gM ⟨tm, upd t.ob g (some o)⟩ (upd kv g v) i) : TabB gT gM t kv i ∨ i = g ∨ ∃ on, o.th = some (i, on) := by
  rcases h with h | h | ⟨x, q, h1, h2⟩
  · exact .inl (.inl h)
  · exact .inl (.inr (.inl h))
  · replace h1 : upd t.ob g (some o) x = some q := h1
    by_cases e : x = g
    · subst e
      rw [upd_self] at h1
      injection h1 with h1
      subst h1
      rcases h2 with h2 | h2 | h2
      · exact .inr (.inl h2)
      · rw [upd_self, hv] at h2; cases h2
      · exact .inr (.inr h2)
    · rw [upd_ne e] at h1
      rw [upd_ne e] at h2
      exact .inl (.inr (.inr ⟨x, q, h1, h2⟩))
theorem tabB_kids {gT gM g i : Nat} {t : Tab} {kv : Nat → Value} {o : TO} {ks : List Int} {v : Value} {tm : List (Int × Nat)} (ho : t.ob g = some o) (h : TabB gT gM ⟨tm, upd t.ob g (some { o with kids := ks })⟩ (upd kv g v) i) : TabB gT gM t kv i ∨ v.ownBlock = some i := by
  rcases h with h | h | ⟨x, q, h1, h2⟩
  · exact .inl (.inl h)
  · exact .inl (.inr (.inl h))
  · replace h1 : upd t.ob g (some { o with kids := ks }) x = some q := h1
    by_cases e : x = g
    · subst e
      rw [upd_self] at h1
      injection h1 with h1
      subst h1
      rcases h2 with h2 | h2 | h2
      · exact .inl (.inr (.inr ⟨x, o, ho, .inl h2⟩))
      · rw [upd_self] at h2; exact .inr h2
      · exact .inl (.inr (.inr ⟨x, o, ho, .inr (.inr h2)⟩))
    · rw [upd_ne e] at h1
      rw [upd_ne e] at h2
      exact .inl (.inr (.inr ⟨x, q, h1, h2⟩))
theorem away {w : World} {gM g h B n : Nat} {l : List (Int × Value)} {v : Value} {xs : List Value} {cs ds : Array Value} (hm : MapAt w gM .u64 l) (hr : w.ownsRow B 28 1 v n xs) (h1 : Blk w h 48 cs) (h2 : Blk w g 48 ds) : ∃ g0, g0 < w.heap.size ∧ h ≠ g0 ∧ g ≠ g0 ∧ ∀ x, v.ownBlock = some x → x = g0 := by
  cases hv : v.ownBlock with
  | none => exact ⟨gM, hm.lt, map_ne h1 hm, map_ne h2 hm, fun _ h => by cases h⟩
  | some x =>
    obtain ⟨_, es, hb⟩ := own_row_blk hr hv
    exact ⟨x, hb.lt, blk_ne h1 hb (by decide), blk_ne h2 hb (by decide), fun y hy => by injection hy with hy; exact hy.symm⟩
theorem grown_to {w w' : World} {r : Option Nat} {g : Nat} (h : w.grownBy w' r) (hr : ∀ x, r = some x → x = g) : w.grownBy w' (some g) := ⟨h.os, h.tape, h.output, h.size, fun i hi hn => h.block i hi fun e => hn (by rw [hr i e.symm])⟩
theorem sz_29 : (Try.prog.info? 29).map (·.size) = some 1 := by kernel_rfl
set_option maxRecDepth 100000 in
/-- An object comes to lie in a table. -/
theorem cAdd {w : World} {B gT gM : Nat} {t : Tab} {kv : Nat → Value} (hT : TabAt w B gT gM t kv) {g : Nat} {o : TO} (hO : ObjAt w B g o (.slice none 0 0)) (hg : B ≤ g) (hn : t.ob g = none) (hok : t.Ok) (hl : ∀ x q, t.ob x = some q → q.kids.length ≤ 100000) : Calls Try.prog 15 #[ptrV gT, ptrV g] w fun e w' => ∃ v, e = .returned v ∧ v = .bool (addB t o) ∧ (addB t o = false → Below w.heap.size w w') ∧ (addB t o = true → ∃ kv', TabAt w' B gT gM (addT t g o) kv' ∧ OnlyB (TabB gT gM t kv) w w' ∧ ∀ i, TabB gT gM (addT t g o) kv' i → TabB gT gM t kv i ∨ i = g ∨ (∃ on, o.th = some (i, on)) ∨ w.heap.size ≤ i) := by
  obtain ⟨i0, hi0, hz0, hz1, hz2⟩ := info_parts Try.info28
  have z0 : OnlyB (fun _ => False) w w := OnlyB.refl _ _
  go_enter Try.func15, Try.ntmps15
  refine wp_seq ?_
  refine flowC mixed (st0 (U := False) (N := 83) (e := [(0, true, .val (ptrV gT)), (1, true, .val (ptrV g))]) (F := noF) rfl rfl (fok_no _ _) ⟨⟨rfl, rfl⟩, ⟨⟨rfl, rfl⟩, True.intro⟩⟩) (by kernel_rfl) (by kernel_rfl) (cc rfl (p_assign g0 (oc _)) cn) fun a1 w1 b1 s1 => ?_
  have z1 := z0.below b1
  have hT := hT.below b1
  have hO := hO.below b1
  refine wp_seq ?_
  refine wp_seq ?_
  have s1 := s1.more 0 (y := .tab gT gM 104 t.vals) (at_tab hT (s1.get 0 rfl))
  have s1 := s1.more 1 (y := .bp g 48 (toC o (.slice none 0 0)) 0) (at_obj hO.blk (s1.get 1 rfl))
  refine flowC mixed (s1.keep (sc 0 rfl (sc 1 rfl (sc 4 rfl sn)))) (by kernel_rfl) (by kernel_rfl) (cc rfl (p_move g0 (od rfl id))
      (cc rfl (p_eqB g0 (od rfl id))
      (cc rfl (p_move g0 (od rfl id))
      (cc rfl (p_move (g1 rfl rfl) (od rfl (fun _ => rfl)))
      (cc rfl (p_nilB (g1 rfl rfl) (od rfl id))
      (cc rfl (p_faB fa_48_1 (g1 rfl rfl) (od rfl id))
      (cc rfl (p_ldB ld_28 rfl (g1 rfl rfl) (od rfl id))
      (cc rfl (p_bin (g1 rfl rfl) (od rfl id) (oc _) b_eql_28)
      (cc rfl (p_or g0 (od rfl id) (od rfl id))
      (cc rfl (p_move g0 (od rfl id))
      (cc rfl (p_move (g1 rfl rfl) (od rfl (fun _ => rfl)))
      (cc rfl (p_nilT (g1 rfl rfl) (od rfl id))
      (cc rfl (p_faT fa_104_0 (g1 rfl rfl) (od rfl id))
      (cc rfl (p_ldT ld_102 (g1 rfl rfl) (od rfl id))
      (cc rfl (p_move (g1 rfl rfl) (od rfl (fun _ => rfl)))
      (cc rfl (p_nilB (g1 rfl rfl) (od rfl id))
      (cc rfl (p_faB fa_48_1 (g1 rfl rfl) (od rfl id))
      (cc rfl (p_ldB ld_28 rfl (g1 rfl rfl) (od rfl id))
      (cc rfl (p_lookO Try.underlying102 Try.underlying28 zero27 (tab_look _ _) (g1 rfl rfl) (od rfl id) (od rfl id))
      (cc rfl (p_bin (g1 rfl rfl) (od rfl id) (oc _) b_neP)
      (cc rfl (p_or g0 (od rfl id) (od rfl id)) cn))))))))))))))))))))) fun a2 w2 b2 s2 => ?_
  have z2 := z1.below b2
  have hT := hT.below b2
  have hO := hO.below b2
  refine s2.cond 26 rfl (fun h26 => ?_) (fun h26 => ?_)
  · -- true
    have hA := add_no h26
    refine wp_seq ?_
    refine flowT (s2.keep (sc 0 rfl (sc 1 rfl (sc 4 rfl sn)))) (by kernel_rfl) (cc rfl (p_assign g0 (oc _)) cn) fun a3 w3 b3 s3 => ?_
    have z3 := z2.below b3
    have hT := hT.below b3
    have hO := hO.below b3
    exact wp_ret (ret_o (fn := Try.f15) (R := fun v w' => v = .bool (addB t o) ∧ (addB t o = false → Below w.heap.size w w') ∧ (addB t o = true → ∃ kv', TabAt w' B gT gM (addT t g o) kv' ∧ OnlyB (TabB gT gM t kv) w w' ∧ ∀ i, TabB gT gM (addT t g o) kv' i → TabB gT gM t kv i ∨ i = g ∨ (∃ on, o.th = some (i, on)) ∨ w.heap.size ≤ i)) (v := .bool false) s3 4 rfl rfl ⟨by rw [hA], fun _ => z3.to_below (fun _ _ h => h) (Nat.le_refl _), fun h => by rw [hA] at h; cases h⟩)
  · -- false
    obtain ⟨hn0, hlk, hA⟩ := add_yes h26
    refine wp_skip ?_
    refine wp_seq ?_
    refine flowC mixed (s2.keep (sc 0 rfl (sc 1 rfl (sc 4 rfl sn)))) (by kernel_rfl) (by kernel_rfl) (cc rfl (p_move g0 (od rfl id))
        (cc rfl (p_nilT g0 (od rfl id))
        (cc rfl (p_faT fa_104_0 g0 (od rfl id))
        (cc rfl (p_ldT ld_102 g0 (od rfl id))
        (cc rfl (p_move g0 (od rfl id))
        (cc rfl (p_nilB g0 (od rfl id))
        (cc rfl (p_faB fa_48_4 g0 (od rfl id))
        (cc rfl (p_ldB ld_28 rfl g0 (od rfl id))
        (cc rfl (p_lookO Try.underlying102 Try.underlying28 zero27 (tab_look _ _) g0 (od rfl id) (od rfl id))
        (cc rfl (p_assign g0 (od rfl id)) cn)))))))))) fun a4 w4 b4 s4 => ?_
    have z4 := z2.below b4
    have hT := hT.below b4
    have hO := hO.below b4
    refine wp_seq ?_
    refine wp_seq ?_
    cases hh : t.tm.lookup o.home with
    | none =>
      rw [hh] at s4
      rw [may_none (home_none hh)] at hA
      refine flowC mixed (s4.keep (sc 0 rfl (sc 1 rfl (sc 4 rfl (sc 5 rfl sn))))) (by kernel_rfl) (by kernel_rfl) (cc rfl (p_move g0 (od rfl id))
          (cc rfl (p_bin g0 (od rfl id) (oc _) b_eqP)
          (cc rfl (p_move g0 (od rfl id))
          (cc rfl (p_move (g1 rfl rfl) (od rfl (fun _ => rfl)))
          (cc rfl (p_dead (g1 rfl rfl) (y := .any) rfl)
          (cc rfl (p_dead (g1 rfl rfl) (y := .any) rfl)
          (cc rfl (p_dead (g1 rfl rfl) (y := .any) rfl)
          (cc rfl (p_dead (g1 rfl rfl) (y := .bool false) rfl)
          (cc rfl (p_or g0 (od rfl id) (od rfl id))
          (cc rfl (p_move g0 (od rfl id))
          (cc rfl (p_move (g1 rfl rfl) (od rfl (fun _ => rfl)))
          (cc rfl (p_nilB (g1 rfl rfl) (od rfl id))
          (cc rfl (p_faB fa_48_1 (g1 rfl rfl) (od rfl id))
          (cc rfl (p_ldB ld_28 rfl (g1 rfl rfl) (od rfl id))
          (cc rfl (p_bin (g1 rfl rfl) (od rfl id) (oc _) b_neq_28)
          (cc rfl (p_move (g1 rfl rfl) (od rfl id))
          (cc rfl (p_move (g1 rfl rfl) (od rfl (fun _ => rfl)))
          (cc rfl (p_nilB (g1 rfl rfl) (od rfl id))
          (cc rfl (p_faB fa_48_4 (g1 rfl rfl) (od rfl id))
          (cc rfl (p_ldB ld_28 rfl (g1 rfl rfl) (od rfl id))
          (cc rfl (p_bin (g1 rfl rfl) (od rfl id) (oc _) b_neq_28)
          (cc rfl (p_or (g1 rfl rfl) (od rfl id) (od rfl id))
          (cc rfl (p_and g0 (od rfl id) (od rfl id)) cn))))))))))))))))))))))) fun a5 w5 b5 s5 => ?_
      have z5 := z4.below b5
      have hT := hT.below b5
      have hO := hO.below b5
      refine s5.cond 58 rfl (fun h58 => ?_) (fun h58 => ?_)
      · -- true
        have h58 : (o.name != 1 || o.home != 0) = true := h58
        rw [h58] at hA
        rw [show (!true) = false from rfl] at hA
        refine wp_seq ?_
        refine flowT (s5.keep (sc 0 rfl (sc 1 rfl (sc 4 rfl (sc 5 rfl sn))))) (by kernel_rfl) (cc rfl (p_assign g0 (oc _)) cn) fun a6 w6 b6 s6 => ?_
        have z6 := z5.below b6
        have hT := hT.below b6
        have hO := hO.below b6
        exact wp_ret (ret_o (fn := Try.f15) (R := fun v w' => v = .bool (addB t o) ∧ (addB t o = false → Below w.heap.size w w') ∧ (addB t o = true → ∃ kv', TabAt w' B gT gM (addT t g o) kv' ∧ OnlyB (TabB gT gM t kv) w w' ∧ ∀ i, TabB gT gM (addT t g o) kv' i → TabB gT gM t kv i ∨ i = g ∨ (∃ on, o.th = some (i, on)) ∨ w.heap.size ≤ i)) (v := .bool false) s6 4 rfl rfl ⟨by rw [hA], fun _ => z6.to_below (fun _ _ h => h) (Nat.le_refl _), fun h => by rw [hA] at h; cases h⟩)
      · -- false
        have h58 : (o.name != 1 || o.home != 0) = false := h58
        rw [h58] at hA
        rw [show (!false) = true from rfl] at hA
        have z5 := z5.mono (S' := (TabB gT gM t kv)) (fun _ _ h => h.elim)
        refine wp_skip ?_
        refine wp_seq ?_
        refine flowR 9 mixed (s5.keep (sc 0 rfl (sc 1 rfl (sc 4 rfl (sc 5 rfl sn))))) (by kernel_rfl) (by kernel_rfl) (cc rfl (p_move g0 (od rfl id))
            (cc rfl (p_nilT g0 (od rfl id))
            (cc rfl (p_faT fa_104_0 g0 (od rfl id))
            (cc rfl (p_ldT ld_102 g0 (od rfl id))
            (cc rfl (p_move g0 (od rfl id))
            (cc rfl (p_nilB g0 (od rfl id))
            (cc rfl (p_faB fa_48_1 g0 (od rfl id))
            (cc rfl (p_ldB ld_28 rfl g0 (od rfl id))
            (cc rfl (p_move g0 (od rfl id)) cn))))))))) fun a7 w7 b7 s7 => ?_
        have z7 := z5.below b7
        have hT := hT.below b7
        have hO := hO.below b7
        show wpList _ _ _ (_ :: _) _ _
        have q62 := (s7.get 62 rfl).1
        have q67 := (s7.get 67 rfl).1
        have s7 := s7.more 0 (y := .val (ptrV gT)) (s7.get 0 rfl).1
        have s7 := s7.more 1 (y := .val (ptrV g)) (s7.get 1 rfl).1
        have s7 := s7
        refine upd_on (n := o.name) (v := ptrV g) s7 hT.mp rfl rfl rfl q62 (s7.get 66 rfl) q67 Try.underlying102 Try.underlying28 (vv 0 rfl (vv 1 rfl (vv 5 rfl vn))) fun w8 hm g8 s8 => ?_
        have hm : MapAt w8 gM .u64 ((t.tm ++ [(o.name, g)]).map fun p => (p.1, ptrV p.2)) := by rw [← put_vals g hlk]; exact hm
        have hO := hO.grownM hT.mp g8
        have hT := hT.put hm g8
        have z8 := z7.grown g8 (fun x _ e => .inr (.inl (by injection e with e; exact e.symm)))
        refine wpList_done ?_
        refine wp_seq ?_
        refine wp_seq ?_
        refine flowC mixed (s8.keep (sc 1 rfl (sc 5 rfl sn))) (by kernel_rfl) (by kernel_rfl) (cc rfl (p_move g0 (od rfl id))
            (cc rfl (p_bin g0 (od rfl id) (oc _) b_neP) cn)) fun a9 w9 b9 s9 => ?_
        have z9 := z8.below b9
        have hT := hT.below b9
        have hO := hO.below b9
        refine s9.cond 69 rfl (fun h => absurd h (by simp)) fun _ => ?_
        refine wp_skip ?_
        refine wp_seq ?_
        refine flowC mixed (s9.keep sn) (by kernel_rfl) (by kernel_rfl) (cc rfl (p_assign g0 (oc _)) cn) fun a10 w10 b10 s10 => ?_
        have z10 := z9.below b10
        have hT := hT.below b10
        have hO := hO.below b10
        exact wp_ret (ret_o (fn := Try.f15) (R := fun v w' => v = .bool (addB t o) ∧ (addB t o = false → Below w.heap.size w w') ∧ (addB t o = true → ∃ kv', TabAt w' B gT gM (addT t g o) kv' ∧ OnlyB (TabB gT gM t kv) w w' ∧ ∀ i, TabB gT gM (addT t g o) kv' i → TabB gT gM t kv i ∨ i = g ∨ (∃ on, o.th = some (i, on)) ∨ w.heap.size ≤ i)) (v := .bool true) s10 4 rfl rfl ⟨by rw [hA], fun h => (by rw [hA] at h; cases h), fun _ => ⟨upd kv g (.slice none 0 0), by rw [addT_none (home_none hh)]; exact hT.more hO hg hn rfl, z10, fun i hi => by rw [addT_none (home_none hh)] at hi; exact (tabB_more rfl hi).imp id fun h => h.imp id .inl⟩⟩)
    | some gh =>
      obtain ⟨q, hq, _⟩ := hok _ _ hh
      rw [hh] at s4
      rw [may_some (home_some hh hq)] at hA
      have s4 := s4.more 5 (y := .bp gh 48 (toC q (kv gh)) 0) (at_obj (hT.ob _ _ hq).blk (s4.get 5 rfl))
      refine flowC mixed (s4.keep (sc 0 rfl (sc 1 rfl (sc 4 rfl (sc 5 rfl sn))))) (by kernel_rfl) (by kernel_rfl) (cc rfl (p_move g0 (od rfl id))
          (cc rfl (p_eqB g0 (od rfl id))
          (cc rfl (p_move g0 (od rfl id))
          (cc rfl (p_move (g1 rfl rfl) (od rfl (fun _ => rfl)))
          (cc rfl (p_nilB (g1 rfl rfl) (od rfl id))
          (cc rfl (p_faB fa_48_2 (g1 rfl rfl) (od rfl id))
          (cc rfl (p_ldB ld_3 rfl (g1 rfl rfl) (od rfl id))
          (cc rfl (p_bin (g1 rfl rfl) (od rfl id) (oc _) b_neq_3)
          (cc rfl (p_or g0 (od rfl id) (od rfl id))
          (cc rfl (p_move g0 (od rfl id))
          (cc rfl (p_move (g1 rfl rfl) (od rfl (fun _ => rfl)))
          (cc rfl (p_nilB (g1 rfl rfl) (od rfl id))
          (cc rfl (p_faB fa_48_1 (g1 rfl rfl) (od rfl id))
          (cc rfl (p_ldB ld_28 rfl (g1 rfl rfl) (od rfl id))
          (cc rfl (p_bin (g1 rfl rfl) (od rfl id) (oc _) b_neq_28)
          (cc rfl (p_move (g1 rfl rfl) (od rfl id))
          (cc rfl (p_move (g1 rfl rfl) (od rfl (fun _ => rfl)))
          (cc rfl (p_nilB (g1 rfl rfl) (od rfl id))
          (cc rfl (p_faB fa_48_4 (g1 rfl rfl) (od rfl id))
          (cc rfl (p_ldB ld_28 rfl (g1 rfl rfl) (od rfl id))
          (cc rfl (p_bin (g1 rfl rfl) (od rfl id) (oc _) b_neq_28)
          (cc rfl (p_or (g1 rfl rfl) (od rfl id) (od rfl id))
          (cc rfl (p_and g0 (od rfl id) (od rfl id)) cn))))))))))))))))))))))) fun a11 w11 b11 s11 => ?_
      have z11 := z4.below b11
      have hT := hT.below b11
      have hO := hO.below b11
      refine s11.cond 58 rfl (fun h58 => ?_) (fun h58 => ?_)
      · -- true
        rw [h58] at hA
        rw [show (!true) = false from rfl] at hA
        refine wp_seq ?_
        refine flowT (s11.keep (sc 0 rfl (sc 1 rfl (sc 4 rfl (sc 5 rfl sn))))) (by kernel_rfl) (cc rfl (p_assign g0 (oc _)) cn) fun a12 w12 b12 s12 => ?_
        have z12 := z11.below b12
        have hT := hT.below b12
        have hO := hO.below b12
        exact wp_ret (ret_o (fn := Try.f15) (R := fun v w' => v = .bool (addB t o) ∧ (addB t o = false → Below w.heap.size w w') ∧ (addB t o = true → ∃ kv', TabAt w' B gT gM (addT t g o) kv' ∧ OnlyB (TabB gT gM t kv) w w' ∧ ∀ i, TabB gT gM (addT t g o) kv' i → TabB gT gM t kv i ∨ i = g ∨ (∃ on, o.th = some (i, on)) ∨ w.heap.size ≤ i)) (v := .bool false) s12 4 rfl rfl ⟨by rw [hA], fun _ => z12.to_below (fun _ _ h => h) (Nat.le_refl _), fun h => by rw [hA] at h; cases h⟩)
      · -- false
        rw [h58] at hA
        rw [show (!false) = true from rfl] at hA
        have z11 := z11.mono (S' := (TabB gT gM t kv)) (fun _ _ h => h.elim)
        refine wp_skip ?_
        refine wp_seq ?_
        refine flowR 9 mixed (s11.keep (sc 0 rfl (sc 1 rfl (sc 4 rfl (sc 5 rfl sn))))) (by kernel_rfl) (by kernel_rfl) (cc rfl (p_move g0 (od rfl id))
            (cc rfl (p_nilT g0 (od rfl id))
            (cc rfl (p_faT fa_104_0 g0 (od rfl id))
            (cc rfl (p_ldT ld_102 g0 (od rfl id))
            (cc rfl (p_move g0 (od rfl id))
            (cc rfl (p_nilB g0 (od rfl id))
            (cc rfl (p_faB fa_48_1 g0 (od rfl id))
            (cc rfl (p_ldB ld_28 rfl g0 (od rfl id))
            (cc rfl (p_move g0 (od rfl id)) cn))))))))) fun a13 w13 b13 s13 => ?_
        have z13 := z11.below b13
        have hT := hT.below b13
        have hO := hO.below b13
        show wpList _ _ _ (_ :: _) _ _
        have q62 := (s13.get 62 rfl).1
        have q67 := (s13.get 67 rfl).1
        have s13 := s13.more 0 (y := .val (ptrV gT)) (s13.get 0 rfl).1
        have s13 := s13.more 1 (y := .val (ptrV g)) (s13.get 1 rfl).1
        have s13 := s13.more 5 (y := .val (optP (some gh))) (s13.get 5 rfl).1
        refine upd_on (n := o.name) (v := ptrV g) s13 hT.mp rfl rfl rfl q62 (s13.get 66 rfl) q67 Try.underlying102 Try.underlying28 (vv 0 rfl (vv 1 rfl (vv 5 rfl vn))) fun w14 hm g14 s14 => ?_
        have hm : MapAt w14 gM .u64 ((t.tm ++ [(o.name, g)]).map fun p => (p.1, ptrV p.2)) := by rw [← put_vals g hlk]; exact hm
        have hO := hO.grownM hT.mp g14
        have hT := hT.put hm g14
        have z14 := z13.grown g14 (fun x _ e => .inr (.inl (by injection e with e; exact e.symm)))
        refine wpList_done ?_
        refine wp_seq ?_
        refine wp_seq ?_
        refine flowC mixed (s14.keep (sc 1 rfl (sc 5 rfl sn))) (by kernel_rfl) (by kernel_rfl) (cc rfl (p_move g0 (od rfl id))
            (cc rfl (p_bin g0 (od rfl id) (oc _) b_neP) cn)) fun a15 w15 b15 s15 => ?_
        have z15 := z14.below b15
        have hT := hT.below b15
        have hO := hO.below b15
        refine s15.cond 69 rfl (fun _ => ?_) (fun h => absurd h (by simp))
        have s15 := s15.keep (sc 1 rfl (sc 5 rfl sn))
        have hrow := (hT.ob _ _ hq).row
        have hBs := Nat.le_of_lt (Nat.lt_of_le_of_lt hT.bT hT.tb.lt)
        have zs := z15.size
        have hgg : g ≠ gh := fun e => by rw [e, hq] at hn; cases hn
        obtain ⟨gz, hgz, hn1, hn2, hn3⟩ : ∃ gz, gz < _ ∧ gh ≠ gz ∧ g ≠ gz ∧ ∀ x, (kv gh).ownBlock = some x → x = gz := away hT.mp hrow (hT.ob _ _ hq).blk hO.blk
        have s15 := s15.vals (F' := AtB gz) (fok_atO hgz) (vv 1 rfl (vv 5 rfl vn))
        have s15 := s15.more 5 (y := .bp gh 48 (toC q (kv gh)) 0) ⟨s15.get 5 rfl, (hT.ob _ _ hq).blk, fun _ h => hn1 h⟩
        have s15 := s15.more 1 (y := .bp g 48 (toC o (.slice none 0 0)) 0) ⟨s15.get 1 rfl, hO.blk, fun _ h => hn2 h⟩
        have s15 := s15.keep (sc 1 rfl (sc 5 rfl sn))
        refine flowEV 11 10 gz 80 .any (fun wr => Below w15.heap.size w15 wr) (fun v wr => w15.grownBy wr (kv gh).ownBlock ∧ wr.ownsRow B 28 1 v (q.kids.length + 1) (q.kids.flatMap kE ++ kE o.name) ∧ (v.ownBlock = (kv gh).ownBlock ∨ ∀ x, v.ownBlock = some x → w15.heap.size ≤ x)) mixed s15 (fun _ => rfl) (Below.refl _ _) (fun h hb => h.trans (hb.mono h.size)) (fun h hb => ⟨only_trans h.1 (only_of_below hb _), own_below h.2.1 hb, h.2.2⟩) (by kernel_rfl) (by decide) (cc rfl (p_move g0 (od rfl id))
            (cc rfl (p_move g0 (od rfl id))
            (cc rfl (p_nilB g0 (od rfl id))
            (cc rfl (p_faB fa_48_9 g0 (od rfl id))
            (cc rfl (p_ldB ld_29 rfl g0 (od rfl id))
            (cc rfl (p_move g0 (od rfl id))
            (cc rfl (p_nilB g0 (od rfl id))
            (cc rfl (p_faB fa_48_1 g0 (od rfl id))
            (cc rfl (p_ldB ld_28 rfl g0 (od rfl id))
            (cc rfl (p_lits1 (E := 28) (fun ev w h1 => by go_simp) g0 (od rfl id)) cn)))))))))) (by kernel_rfl) cn (by kernel_rfl) (by kernel_rfl) (fun ac wc oc hoc hsz hf hknow hBel R hR => ?_) rfl fun a16 w16 _ hG s16 => ?_
        · obtain rfl := Option.some.inj hoc
          have q74 : ac.tmps.getD 74 undef = kv gh := (hknow 74 (List.contains_iff_mem.1 (by kernel_rfl)) _ rfl).1 rfl
          obtain ⟨gl, q79, hgl, _⟩ := ((hknow 79 (List.contains_iff_mem.1 (by kernel_rfl)) _ rfl).1 rfl).1
          refine app_call (cs := kE o.name) rfl rfl Try.underlying29 hi0 hz0 hz1 hz2 rfl (by decide) (own_below hrow hBel) q74 q79 hgl rfl (fun u hu => by rw [List.mem_singleton.1 hu]; rfl) (by have := hl _ _ hq; unfold maxLen; omega) (by have := hl _ _ hq; omega) (Nat.le_trans hBs hBel.size) fun v' w' h1 h2 h3 => ?_
          refine hR v' w' (grown_to h2 fun x hx => hn3 x hx) (fun u => u.elim) ⟨only_trans (only_of_below hBel _) h2, h1, h3.imp id fun e x hx => by rw [e] at hx; injection hx with hx; rw [← hx]; exact hBel.size⟩ True.intro
        obtain ⟨v2, hv2⟩ : ∃ v, v = a16.tmps.getD 80 undef := ⟨_, rfl⟩
        have s16 := s16.more 80 (y := .val v2) hv2.symm
        rw [← hv2] at hG
        obtain ⟨gA, ow2, eo⟩ := hG
        have s16 := s16.more 70 (y := .val (ptrV gh)) (s16.get 70 rfl).1
        have s16 := s16.vals (F' := noF) (fok_no _ w16) (vv 70 rfl (vv 80 rfl vn))
        have ow2 : w16.ownsRow B 28 1 v2 (q.kids ++ [o.name]).length ((q.kids ++ [o.name]).flatMap kE) := by rw [List.length_append, List.flatMap_append]; exact ow2
        have hO := hO.grownR hrow gA
        have hbl := (hT.ob _ _ hq).blk.grown gA (Ne.symm (row_ne (hT.ob _ _ hq).blk hrow (by decide)))
        have z16 := z15.grown gA (fun x _ e => .inr (.inr ⟨gh, q, hq, .inr (.inl e)⟩))
        show wpList _ _ _ (_ :: _ :: _ :: _) _ _
        refine chainK 2 (cc rfl (p_nilV g0 (od rfl id))
            (cc rfl (p_faV0 fa_48_9 g0 (od rfl id)) cn)) (by kernel_rfl) s16 fun a17 w17 b17 s17 => ?_
        have z17 := z16.below b17
        have hO := hO.below b17
        have hbl := hbl.below b17 hbl.lt
        have ow2 := own_below ow2 b17
        have gA := only_trans gA (only_of_below b17 _)
        show wpList _ _ _ (_ :: _) _ _
        refine cells_on (vs := [v2]) s17 rfl rfl rfl (s17.get 82 rfl) (s17.get 80 rfl) (slice_one ow2).2 hbl (by simp) sz_29 (fun u hu => by rw [List.mem_singleton.1 hu]; exact (slice_one ow2).1) vn fun a18 w18 hbl2 gS s18 => ?_
        have hbl2 : Blk w18 gh 48 (toC { q with kids := q.kids ++ [o.name] } v2) := hbl2
        have hO := hO.grownO hbl hgg gS
        have z18 := z17.grown gS (fun x _ e => .inr (.inr ⟨gh, q, hq, .inl (by injection e with e; exact e.symm)⟩))
        have hT := hT.kids hq (.inl gA) ow2 eo hbl2 gS
        refine wpList_done ?_
        refine wp_seq ?_
        refine flowC mixed (s18.keep sn) (by kernel_rfl) (by kernel_rfl) (cc rfl (p_assign g0 (oc _)) cn) fun a19 w19 b19 s19 => ?_
        have z19 := z18.below b19
        have hT := hT.below b19
        have hO := hO.below b19
        exact wp_ret (ret_o (fn := Try.f15) (R := fun v w' => v = .bool (addB t o) ∧ (addB t o = false → Below w.heap.size w w') ∧ (addB t o = true → ∃ kv', TabAt w' B gT gM (addT t g o) kv' ∧ OnlyB (TabB gT gM t kv) w w' ∧ ∀ i, TabB gT gM (addT t g o) kv' i → TabB gT gM t kv i ∨ i = g ∨ (∃ on, o.th = some (i, on)) ∨ w.heap.size ≤ i)) (v := .bool true) s19 4 rfl rfl ⟨by rw [hA], fun h => (by rw [hA] at h; cases h), fun _ => ⟨upd (upd kv gh v2) g (.slice none 0 0), by rw [addT_some (home_some hh hq)]; exact hT.more hO hg (by show upd t.ob gh _ g = none; rw [upd_ne hgg]; exact hn) rfl, z19, fun i hi => by
        rw [addT_some (home_some hh hq)] at hi
        rcases tabB_more (t := ⟨t.tm, upd t.ob gh (some { q with kids := q.kids ++ [o.name] })⟩) rfl hi with h | h | h
        · rcases tabB_kids hq h with h | h
          · exact .inl h
          · rcases eo with e | e
            · exact .inl (.inr (.inr ⟨gh, q, hq, .inr (.inl (e ▸ h))⟩))
            · exact .inr (.inr (.inr (Nat.le_trans zs (e i h))))
        · exact .inr (.inl h)
        · exact .inr (.inr (.inl h))⟩⟩)

end Go.Proofs.Ytbeeiecbbmiojaa.Y
