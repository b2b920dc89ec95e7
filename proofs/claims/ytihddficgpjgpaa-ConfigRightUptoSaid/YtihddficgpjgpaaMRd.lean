/- MRd: Yread, Yfit3, Ylaw3, Yjoin, one behind the other. -/
import Derived.Test.YtihddficgpjgpaaYpack
import Derived.Test.YtihddficgpjgpaaHead
import Derived.Test.YtihddficgpjgpaaYopen
import Derived.Test.YtihddficgpjgpaaBits

/- Yread: readers -/
namespace Go.Proofs.Ytihddficgpjgpaa.Y
open Go.RowKit Go.ChangeShapes Go.WideShapes Go.ChangeAt

section
variable {d : Nat} {t : TypeId} {p : String} {af : Array Edge} {g : Option (Nat × Bool)} {x x2 : Operand}
theorem sl_hi : ∀ (ev : Operand → Value) (w : World) (A : Option Addr) (len cap k : Nat), ev x = .slice A len cap → ev x2 = .int .i64 k → k ≤ cap → (execOp ev ⟨some d, .slice 22 x none (some x2) none, t, p, af, g⟩).run Try.prog w = .ok (.value (.slice A k cap)) w := fun ev w A len cap k h1 h2 h3 => by
  have e1 : (0 : Int) ≤ (k : Int) ∧ (k : Int) ≤ (cap : Int) := by omega
  go_simp
theorem sl_lo : ∀ (ev : Operand → Value) (w : World) (A : Option Addr) (len cap k : Nat), ev x = .slice A len cap → ev x2 = .int .i64 k → k ≤ len → len ≤ cap → (execOp ev ⟨some d, .slice 22 x (some x2) none none, t, p, af, g⟩).run Try.prog w = .ok (.value (.slice (if cap = k then A else A.map (fun a => a.add k)) (len - k) (cap - k))) w := fun ev w A len cap k h1 h2 h3 h4 => by
  have e1 : (0 : Int) ≤ (k : Int) ∧ (k : Int) ≤ (len : Int) := by omega
  go_simp
theorem b_shl {k : Nat} (hk : k < 64) : Run2 Try.prog ⟨some d, .binOp .shl 23 x x2 26, t, p, af, g⟩ x x2 (.int .u64 1) (.int .u64 k) (.int .u64 (IntKind.u64.wrap (2 ^ k))) := fun ev w h1 h2 => by
  have hm : min k 64 = k := by omega
  go_simp
theorem b_mul_26 {a b : Int} : Run2 Try.prog ⟨some d, .binOp .mul 26 x x2 26, t, p, af, g⟩ x x2 (.int .u64 a) (.int .u64 b) (.int .u64 (IntKind.u64.wrap (a * b))) := fun ev w h1 h2 => by go_simp
theorem b_sub_23 {a b : Int} : Run2 Try.prog ⟨some d, .binOp .sub 23 x x2 23, t, p, af, g⟩ x x2 (.int .u64 a) (.int .u64 b) (.int .u64 (IntKind.u64.wrap (a - b))) := fun ev w h1 h2 => by go_simp
theorem b_and_23 {a b : Int} : Run2 Try.prog ⟨some d, .binOp .and 23 x x2 23, t, p, af, g⟩ x x2 (.int .u64 a) (.int .u64 b) (.int .u64 (bits .and .u64 a b)) := fun ev w h1 h2 => by go_simp
theorem b_mul_3 {a b : Int} : Run2 Try.prog ⟨some d, .binOp .mul 3 x x2 3, t, p, af, g⟩ x x2 (.int .i64 a) (.int .i64 b) (.int .i64 (IntKind.i64.wrap (a * b))) := fun ev w h1 h2 => by go_simp
theorem cv_3_26 {a : Int} : Run1 Try.prog ⟨some d, .convert 3 26 x, t, p, af, g⟩ x (.int .i64 a) (.int .u64 (IntKind.u64.wrap a)) := fun ev w h1 => by go_simp
end
section
variable {P : Program} {U : Prop} {ops : Array Oper} {Q : Exit → Act → World → Prop} {N d : Nat} {e : Env} {t : TypeId} {p : String} {af : Array Edge} {g : Option (Nat × Bool)} {c : Bool} {x x2 : Operand}
theorem p_cvE {u u' : TypeId} {v : Value} {k : IntKind} {n n' : Int} (hn : n = n') (hg : GdE ops e g c) (hx : OpdE e c x (.val v)) (hr : Run1 P ⟨some d, .convert u u' x, t, p, af, g⟩ x v (.int k n)) : Pays U P ops Q N e ⟨some d, .convert u u' x, t, p, af, g⟩ (c, .int k n') := hn ▸ p_conv hg hx hr
theorem p_binE {u u' : TypeId} {o : BinOp} {v1 v2 : Value} {k : IntKind} {n n' : Int} (hn : n = n') (hg : GdE ops e g c) (hx : OpdE e c x (.val v1)) (hx2 : OpdE e c x2 (.val v2)) (hr : Run2 P ⟨some d, .binOp o u x x2 u', t, p, af, g⟩ x x2 v1 v2 (.int k n)) : Pays U P ops Q N e ⟨some d, .binOp o u x x2 u', t, p, af, g⟩ (c, .int k n') := hn ▸ p_bin hg hx hx2 hr
theorem p_slHi {l : List Int} {k : Nat} (hk : k ≤ l.length) (hg : GdE ops e g c) (hx : OpdE e c x (.by l)) (hx2 : OpdE e c x2 (.int .i64 k)) : Pays U Try.prog ops Q N e ⟨some d, .slice 22 x none (some x2) none, t, p, af, g⟩ (c, .by (l.take k)) :=
  pVal hg fun e a w F hk' => by
    obtain ⟨A, cp, e1, h2, h3⟩ := hx a w F (fun s hs => hk' s (by simp [Op.operands, hs])) e
    have e2 := hx2 a w F (fun s hs => hk' s (by simp [Op.operands, hs])) e
    simp only [List.cons.injEq, and_true] at e1
    have hl : (l.take k).length = k := by simp; omega
    refine ⟨_, sl_hi _ w A _ _ k e1 e2 (by omega), A, cp, by rw [hl], fun hp => ?_, by omega⟩
    obtain ⟨b, off, rfl, h4, h6⟩ := h2 (by omega)
    refine ⟨b, off, rfl, h4, fun i hi => ?_⟩
    have hi' : i < l.length := by omega
    obtain ⟨cs, h7, h8⟩ := h6 i hi'
    exact ⟨cs, by rw [List.getElem_take]; exact h7, h8⟩
theorem p_slLo {l : List Int} {k : Nat} (hk : k ≤ l.length) (hg : GdE ops e g c) (hx : OpdE e c x (.by l)) (hx2 : OpdE e c x2 (.int .i64 k)) : Pays U Try.prog ops Q N e ⟨some d, .slice 22 x (some x2) none none, t, p, af, g⟩ (c, .by (l.drop k)) :=
  pVal hg fun e a w F hk' => by
    obtain ⟨A, cp, e1, h2, h3⟩ := hx a w F (fun s hs => hk' s (by simp [Op.operands, hs])) e
    have e2 := hx2 a w F (fun s hs => hk' s (by simp [Op.operands, hs])) e
    simp only [List.cons.injEq, and_true] at e1
    have hl : (l.drop k).length = l.length - k := by simp
    refine ⟨_, sl_lo _ w A _ _ k e1 e2 hk h3, _, cp - k, by rw [hl], fun hp => ?_, by omega⟩
    obtain ⟨b, off, rfl, h4, h6⟩ := h2 (by omega)
    rw [if_neg (by omega)]
    refine ⟨b, off + k, by simp [add_none], h4, fun i hi => ?_⟩
    have hi' : k + i < l.length := by omega
    obtain ⟨cs, h7, h8⟩ := h6 (k + i) hi'
    refine ⟨cs, by rw [List.getElem_drop]; exact h7, fun j hj => ?_⟩
    have := h8 j hj
    rwa [show off + (k + i) * byL.n + j = off + k + i * byL.n + j by show off + (k + i) * 1 + j = off + k + i * 1 + j; omega] at this
end
theorem rd_blk {w : World} {g : Nat} {bs : List Int} {k : Nat} {b : Bool} (h : Pk.RdAt w g bs k b) (o : Nat) (x : Int) : w.cell? ⟨g, o, none⟩ ≠ some (.int .u32 x) := by
  obtain ⟨A, c, hb, _⟩ := h
  rw [hb.cell]
  rcases o with _ | _ | _ | o <;> simp
/-- Another reader is written. -/
theorem rd_other {w w' : World} {g g' : Nat} {bs bs' : List Int} {k k' : Nat} {b b' : Bool} (h : Pk.RdAt w g bs k b) (h' : Pk.RdAt w g' bs' k' b') (hne : g ≠ g') (hg : w.grownBy w' (some g')) : Pk.RdAt w' g bs k b := by
  have hl := h.lt
  obtain ⟨A, c, h1, h2, h3, h4⟩ := h
  refine ⟨A, c, h1.grown hg (by simpa using hne), fun hp => ?_, h3, h4⟩
  obtain ⟨b0, off, rfl, hb, hc⟩ := h2 hp
  refine ⟨b0, off, rfl, hb, fun i hi => ?_⟩
  have hne2 : b0 ≠ g' := fun e => by
    obtain ⟨A', c', h5, _⟩ := h'
    have := hc i hi
    rw [e, h5.cell] at this
    generalize off + i = o at this
    rcases o with _ | _ | _ | o <;> simp at this
  exact (World.cell?_of_block (hg.block b0 (by omega) (fun e => hne2 (by injection e)))).trans (hc i hi)
section
variable {w : World} {g : Nat} {bs : List Int} {k : Nat} {b : Bool}
theorem cBad (h : Pk.RdAt w g bs k b) : Calls Try.prog 33 #[.pointer (some ⟨g, 0, none⟩)] w fun e w' => e = .returned (.bool b) ∧ Pk.RdAt w' g bs k b ∧ w.grownBy w' (some g) := (Pk.bad_any h).mono (by rintro _ w' ⟨rfl, rfl⟩; exact ⟨rfl, h, only_refl _ _⟩)
theorem cRest (h : Pk.RdAt w g bs k b) (hm : bs.length ≤ 1000000) : Calls Try.prog 34 #[.pointer (some ⟨g, 0, none⟩)] w fun e w' => e = .returned (.int .i64 ((bs.length : Int) - k)) ∧ Pk.RdAt w' g bs k b ∧ w.grownBy w' (some g) := (Pk.rest_any h hm).mono (by rintro _ w' ⟨rfl, hb⟩; exact ⟨rfl, h.below hb, only_of_below hb _⟩)
theorem cFail (h : Pk.RdAt w g bs k b) : Calls Try.prog 39 #[.pointer (some ⟨g, 0, none⟩)] w fun e w' => e = .returned (.tuple #[]) ∧ Pk.RdAt w' g bs k true ∧ w.grownBy w' (some g) := Pk.fail_any h
theorem cNum (h : Pk.RdAt w g bs k false) (hB : Pk.Byt bs) (hm : bs.length ≤ 1000000) {n : Nat} (hn : k + n ≤ bs.length) (h1 : 1 ≤ n) (h8 : n ≤ 8) : Calls Try.prog 32 #[.pointer (some ⟨g, 0, none⟩), .int .i64 n] w fun e w' => e = .returned (.int .u64 (Pk.numL ((bs.drop k).take n))) ∧ Pk.RdAt w' g bs (k + n) false ∧ w.grownBy w' (some g) := Pk.num_ok h hB hm n hn h1 h8
theorem cNumF (h : Pk.RdAt w g bs k b) (hm : bs.length ≤ 1000000) {n : Int} (h1 : 1 ≤ n) (h8 : n ≤ 8) (hn : b = true ∨ (bs.length : Int) - k < n) : Calls Try.prog 32 #[.pointer (some ⟨g, 0, none⟩), .int .i64 n] w fun e w' => e = .returned (.int .u64 0) ∧ Pk.RdAt w' g bs k true ∧ w.grownBy w' (some g) := Pk.num_fail h hm n h1 h8 hn
theorem cTake (h : Pk.RdAt w g bs k false) (hm : bs.length ≤ 1000000) {n : Nat} (hn : k + n ≤ bs.length) : Calls Try.prog 35 #[.pointer (some ⟨g, 0, none⟩), .int .i64 n] w fun e w' => ∃ v, e = .returned v ∧ w'.ownsRow w.heap.size 5 1 v ((bs.drop k).take n).length (((bs.drop k).take n).flatMap byE) ∧ Pk.RdAt w' g bs (k + n) false ∧ w.grownBy w' (some g) := (Pk.take_ok h hm n hn).mono (by
  rintro _ w' ⟨v, rfl, h1, h2, h3⟩
  exact ⟨v, rfl, by rw [flat_u8s, show ((bs.drop k).take n).length = n by simp; omega]; exact h1, h2, h3⟩)
theorem cTakeF (h : Pk.RdAt w g bs k b) (hm : bs.length ≤ 1000000) {n : Int} (hn : b = true ∨ n < 0 ∨ (bs.length : Int) - k < n) : Calls Try.prog 35 #[.pointer (some ⟨g, 0, none⟩), .int .i64 n] w fun e w' => e = .returned (.slice none 0 0) ∧ Pk.RdAt w' g bs k true ∧ w.grownBy w' (some g) := Pk.take_fail h hm n hn
end
section
variable {U : Prop} {Q : Exit → Act → World → Prop} {N : Nat} {e : Env} {F : Cell → Prop} {a : Act} {w : World} {ops : Array Oper} {rest : List Oper} {o : Oper}
theorem new_on {bs : List Int} {d : Nat} {c : Bool} (sx : Nat) (h : StE U N e F a w) (hsx : e.lookup sx = some (c, .by bs)) (hc : c = true) (hw : Region.wanted o (yielded ops a.tmps) = true) (hr : CallRun Try.prog o [.tmp sx] 31) (hd : o.dst = some d) (hdN : decide (d < N) = true)
    (hQ : ∀ g a' w', Pk.RdAt w' g bs 0 false → w.heap.size ≤ g → Below w.heap.size w w' → StE U N ((d, true, .val (.pointer (some ⟨g, 0, none⟩))) :: e) (And2 F (AtB g)) a' w' → wpList Try.prog ops Q rest a' w') : wpList Try.prog ops Q (o :: rest) a w := by
  obtain ⟨A, cp, e1, h1, h2⟩ := by_in ((h.known sx _ hsx).1 hc)
  refine call_on 31 [.tmp sx] hw hr ?_
  refine (show Calls Try.prog 31 #[a.tmps.getD sx undef] w _ from by rw [e1]; exact Pk.new_any A cp bs w h1 h2).mono ?_
  rintro _ w' ⟨rfl, hr', hb⟩
  refine ⟨_, rfl, ?_⟩
  rw [hd]
  exact hQ _ _ w' hr' (Nat.le_refl _) hb (h.freshV hb (Nat.le_refl _) hr'.lt (fun _ => rd_blk hr') (by simpa using hdN))
theorem rd_on {f : FuncId} {bs : List Int} {d g k : Nat} {b : Bool} {r : Value} (A : List Operand) (h : StE U N e F a w) (hF : ∀ o, F (g, o)) (hw : Region.wanted o (yielded ops a.tmps) = true) (hr : CallRun Try.prog o A f) (hd : o.dst = some d) (hdN : decide (d < N) = true)
    (HC : Calls Try.prog f (A.map a.eval).toArray w fun e w' => e = .returned r ∧ Pk.RdAt w' g bs k b ∧ w.grownBy w' (some g))
    (hQ : ∀ a' w', Pk.RdAt w' g bs k b → w.grownBy w' (some g) → StE U N ((d, true, .val r) :: e) F a' w' → wpList Try.prog ops Q rest a' w') : wpList Try.prog ops Q (o :: rest) a w := by
  refine call_on f A hw hr (HC.mono ?_)
  rintro _ w' ⟨rfl, h1, h2⟩
  refine ⟨_, rfl, ?_⟩
  rw [hd]
  exact hQ _ w' h1 h2 ((h.wroteB h2 hF fun _ => rd_blk h1).put (Below.refl _ _) (by simpa using hdN) ⟨fun _ => rfl, fun e => by cases e⟩)
theorem rd_take {f : FuncId} {bs l : List Int} {d g k : Nat} {b : Bool} (A : List Operand) (h : StE U N e F a w) (hF : ∀ o, F (g, o)) (hw : Region.wanted o (yielded ops a.tmps) = true) (hr : CallRun Try.prog o A f) (hd : o.dst = some d) (hdN : decide (d < N) = true)
    (HC : Calls Try.prog f (A.map a.eval).toArray w fun e w' => ∃ v, e = .returned v ∧ w'.ownsRow w.heap.size 5 1 v l.length (l.flatMap byE) ∧ Pk.RdAt w' g bs k b ∧ w.grownBy w' (some g))
    (hQ : ∀ a' w', Pk.RdAt w' g bs k b → w.grownBy w' (some g) → StE U N ((d, true, .by l) :: e) F a' w' → wpList Try.prog ops Q rest a' w') : wpList Try.prog ops Q (o :: rest) a w := by
  refine call_on f A hw hr (HC.mono ?_)
  rintro _ w' ⟨v, rfl, h0, h1, h2⟩
  refine ⟨v, rfl, ?_⟩
  rw [hd]
  exact hQ _ w' h1 h2 ((h.wroteB h2 hF fun _ => rd_blk h1).put (Below.refl _ _) (by simpa using hdN) ⟨fun _ => (own_by h.fok h0).1, fun e => by cases e⟩)
end
theorem f33n {U : Prop} : Fn U Try.prog 33 [.val (.pointer none)] (.bool true) := fn1 fun w F v1 h1 hF => by
  obtain rfl : v1 = .pointer none := h1
  exact (Pk.bad_none w).mono (by rintro _ w' ⟨rfl, rfl⟩; exact ⟨_, rfl, rfl, Below.refl _ _⟩)
theorem f34n {U : Prop} : Fn U Try.prog 34 [.val (.pointer none)] (.int .i64 0) := fn1 fun w F v1 h1 hF => by
  obtain rfl : v1 = .pointer none := h1
  exact (Pk.rest_none w).mono (by rintro _ w' ⟨rfl, rfl⟩; exact ⟨_, rfl, rfl, Below.refl _ _⟩)
theorem f35n {U : Prop} : Fn U Try.prog 35 [.val (.pointer none), .int .i64 0] (.by []) := fn2 fun w F v1 v2 h1 h2 hF => by
  obtain rfl : v1 = .pointer none := h1
  obtain rfl : v2 = .int .i64 0 := h2
  exact (Pk.take_none w).mono (by rintro _ w' ⟨rfl, rfl⟩; exact ⟨_, rfl, ⟨none, 0, rfl, fun h => absurd h (by simp), Nat.le_refl _⟩, Below.refl _ _⟩)
theorem f37n {a : Lab} (hp : a.ps.length ≤ 100000) : Fn False Try.prog 37 [.by [], .st rawL a] (.by (labB a)) := f37 (by simp) hp

end Go.Proofs.Ytihddficgpjgpaa.Y

/- Yfit3: the example of the laws on bytes -/
namespace Go.Proofs.Ytihddficgpjgpaa.Y
open Go.RowKit Go.ChangeShapes Go.WideShapes Go.ChangeAt

theorem f60r {U : Prop} {d : Int} : Fn U Try.prog 60 [.int .i64 d] (.st rawL ⟨d, []⟩) := fn1 fun w F v1 h1 hF => by
  obtain rfl : v1 = .int .i64 d := h1
  refine (of_any d w).mono ?_
  rintro _ w' ⟨v, rfl, ⟨A, c, rfl, h2, h3⟩, h4⟩
  exact ⟨_, rfl, ⟨_, rfl, [.int .i64 d], [.slice A 0 c], rfl, rfl, A, c, rfl, fun h => absurd h (by simp), h3⟩, h4⟩
set_option maxRecDepth 100000 in
theorem f28  : Fn False Try.prog 28 [] (.bool true) := fn0 fun w F   hF => by
  go_enter Try.func28, Try.ntmps28
  refine wp_seq ?_
  refine flowC mixed (st0 (U := False) (N := 25) (e := []) (F := F) rfl rfl hF True.intro) (by kernel_rfl) (by kernel_rfl) (cc rfl (p_assign g0 (oc _)) cn) fun a1 w1 b1 s1 => ?_
  have z1 := b1
  refine wp_seq ?_
  refine flowC mixed (s1.keep (sc 0 rfl sn)) (by kernel_rfl) (by kernel_rfl) (cc rfl (p_call 60 g0 (ox (oc _) ox0) (fun _ _ => by kernel_rfl) f60r)
      (cc rfl (p_call 37 g0 (ox oc_nil (ox (od rfl id) ox0)) (fun _ _ => by kernel_rfl) (f37n (by simp)))
      (cc rfl (p_assign g0 (od rfl id)) cn))) fun a2 w2 b2 s2 => ?_
  have z2 := z1.trans (b2.mono z1.size)
  refine wp_seq ?_
  refine wp_region_lit ?_
  refine chainK 16 (cc rfl (p_move g0 (od rfl id))
      (cc rfl (p_len ln_22 g0 (od rfl id))
      (cc rfl (p_bin g0 (od rfl id) (oc _) b_eql_3)
      (cc rfl (p_move g0 (od rfl id))
      (cc rfl (p_move (g1 rfl rfl) (od rfl (fun _ => rfl)))
      (cc rfl (p_index (i := 0) ix_22 rfl (g1 rfl rfl) (od rfl id) (oc _))
      (cc rfl (p_loadI ld_5 (g1 rfl rfl) (od rfl id))
      (cc rfl (p_bin (g1 rfl rfl) (od rfl id) (oc _) b_eql_5)
      (cc rfl (p_and g0 (od rfl id) (od rfl id))
      (cc rfl (p_move g0 (od rfl id))
      (cc rfl (p_move (g1 rfl rfl) (od rfl (fun _ => rfl)))
      (cc rfl (p_index (i := 1) ix_22 rfl (g1 rfl rfl) (od rfl id) (oc _))
      (cc rfl (p_loadI ld_5 (g1 rfl rfl) (od rfl id))
      (cc rfl (p_bin (g1 rfl rfl) (od rfl id) (oc _) b_eql_5)
      (cc rfl (p_and g0 (od rfl id) (od rfl id))
      (cc rfl (p_move g0 (od rfl id)) cn)))))))))))))))) (by kernel_rfl) (s2.keep (sc 1 rfl sn)) fun a3 w3 b3 s3 => ?_
  have z3 := z2.trans (b3.mono z2.size)
  have s3 := s3.more 19 (y := .bool true) (bool_as (s3.get 19 rfl) (by kernel_rfl))
  refine chainK 1 (cc rfl (p_call 29 (g1 rfl rfl) (ox oc_nil (ox (oc _) (ox (oc _) ox0))) (fun _ _ => by kernel_rfl) (f29 (n := 2) (by simp) (by decide))) cn) (by kernel_rfl) s3 fun a4 w4 b4 s4 => ?_
  have z4 := z3.trans (b4.mono z3.size)
  have s4 := s4.more 20 (y := .by (Pk.putL 2 258)) (s4.get 20 (y := .by ([] ++ Pk.putL 2 258)) rfl)
  show wpList _ _ _ (_ :: _) _ _
  refine new_on 20 s4 rfl rfl (Eq.trans (s4.wanted (g1 rfl rfl) rfl) rfl) (fun _ _ => by kernel_rfl) rfl (by decide) fun gA a5 w5 rdA hgA0 b5 s5 => ?_
  have hgA := Nat.le_trans z4.size hgA0
  have z5 := z4.trans (b5.mono z4.size)
  show wpList _ _ _ (_ :: _) _ _
  have q21 : a5.tmps.getD 21 undef = .pointer (some ⟨gA, 0, none⟩) := s5.get 21 rfl
  refine rd_on [.tmp 21, .const (.int .i64 2)] s5 (fun _ => .inr rfl) (Eq.trans (s5.wanted (g1 rfl rfl) rfl) rfl) (fun _ _ => by kernel_rfl) rfl (by decide) (show Calls Try.prog 32 #[a5.tmps.getD 21 undef, .int .i64 2] w5 _ from by rw [q21]; exact cNum rdA (Pk.putL_byt 2 258) (by rw [Pk.putL_length]; decide) (n := 2) (by rw [Pk.putL_length]; decide) (by decide) (by decide)) fun a6 w6 rdAx g6 s6 => ?_
  have rdA := rdAx
  have z6 := z5.grown g6 z5.size fun k e => by cases e; exact hgA
  refine chainK 2 (cc rfl (p_bin (g1 rfl rfl) (od rfl (fun _ => rfl)) (oc _) b_eql_23)
      (cc rfl (p_and g0 (od rfl id) (od rfl id)) cn)) (by kernel_rfl) s6 fun a7 w7 b7 s7 => ?_
  have z7 := z6.trans (b7.mono z6.size)
  have rdA := rdA.below b7
  have s7 := s7.more 24 (y := .bool true) (bool_as (s7.get 24 rfl) (by kernel_rfl))
  refine chainT (t := []) (cc rfl (p_assign g0 (od rfl id)) cn) (by kernel_rfl) s7 fun a8 w8 b8 s8 => wpList_done ?_
  have z8 := z7.trans (b8.mono z7.size)
  have rdA := rdA.below b8
  have s8 := (s8.less (F' := F) (fun _ h => .inl h)).more 0 (y := .bool true) (s8.get 0 rfl)
  exact wp_ret (ret_tmp (fn := Try.f28) s8 0 rfl rfl (fun _ h => h) z8)

end Go.Proofs.Ytihddficgpjgpaa.Y

/- Ylaw3: more for the laws on bytes -/
namespace Go.Proofs.Ytihddficgpjgpaa.Y
open Go.RowKit Go.ChangeShapes Go.WideShapes Go.ChangeAt

/-- append(nil, l..): a list of the call's own. -/
theorem p_append0 {P : Program} {U : Prop} {ops : Array Oper} {Q : Exit → Act → World → Prop} {N d : Nat} {e : Env} {t : TypeId} {p : String} {af : Array Edge} {g : Option (Nat × Bool)} {c : Bool} {x : Operand} {T E : TypeId} {α : Type} {L : Lay α} {enc : α → List Value} {l : List α} {i : TypeInfo} {z : Value} {bytes : Nat} (hf : Flat L enc) (ht : P.underlying T = some (.slice E)) (hi : P.info? E = some i) (hz : i.zero = some z) (hsize : i.size = L.n) (hby : i.bytes = bytes) (hzs : z.cells.size = L.n) (hsz : 0 < L.n) (hb40 : bytes ≤ 64) (hl : l.length ≤ 1000000)
    (hg : GdE ops e g c) (hx : OpdE e c x (.one (Lay.sl L) l)) : Pays U P ops Q N e ⟨some d, .call { callee := .builtin .append, args := #[.const (.slice none 0 0), x], argTypes := #[T, T] }, t, p, af, g⟩ (c, .one (Lay.sl L) l) :=
  pOf hg fun e a w F hF hk R hR => by
    have h1 := hx a w F (fun s hs => hk s (by simp [Op.operands, Call.operands, hs])) e
    obtain ⟨A, cp, e1, hr, _⟩ := reads_of_sl hf h1
    have hby2 : (0 + l.length) * bytes ≤ 140737488355328 := Nat.le_trans (Nat.mul_le_mul (show 0 + l.length ≤ 1000000 by omega) hb40) (by decide)
    refine wp_append_any w (.const (.slice none 0 0)) x T rfl w.heap.size E i z L.n bytes ht hi hz hsize hby hzs hsz (.slice none 0 0) 0 [] rfl (World.ownsRow_nil _ _ _ _) w.heap.size A l.length cp _ e1 hr (hf.ones l) (by unfold maxLen; omega) hby2 (Nat.le_refl _) fun v' w' h2 h3 _ => ?_
    refine hR v' w' (below_of_none h3) (sl_of_own hf (by simpa using h2) fun g o hg _ hf => ?_)
    have := own_base h2 hg
    have := hF.lt (g, o) hf
    simp only at this
    omega
theorem opens_bytes : Opens Try.prog 22 (Lay.sl byL) (fun l => l.length ≤ maxLen ∧ ∀ x ∈ l, (Lit.int .u8 x).wf = true) := opens_slice ⟨0⟩ Try.underlying22 (by kernel_rfl) (by decide) (opens_int Try.underlying5)
theorem byt_wf {l : List Int} (h : ∀ x ∈ l, (Lit.int .u8 x).wf = true) : Pk.Byt l := fun x hx => by
  have := h x hx
  simp [Lit.wf, IntKind.min, IntKind.max, IntKind.bits, IntKind.signed] at this
  omega
theorem eight_is (q : Int) : ∃ n : Nat, 1 ≤ n ∧ n ≤ 8 ∧ IntKind.i64.wrap ((IntKind.i64.wrap (q.tmod 8 + 8)).tmod 8 + 1) = (n : Int) := by
  have h3 : (0 : Int) < 8 := by omega
  have h4 := Int.tmod_lt_of_pos q h3
  have h5 : -8 < q.tmod 8 := Int.lt_tmod_of_pos q h3
  have e : IntKind.i64.wrap (q.tmod 8 + 8) = q.tmod 8 + 8 := by rw [IntKind.wrap_i64]; omega
  rw [e]
  have h6 : 0 ≤ (q.tmod 8 + 8).tmod 8 := Int.tmod_nonneg _ (by omega)
  have h7 := Int.tmod_lt_of_pos (q.tmod 8 + 8) h3
  exact ⟨((q.tmod 8 + 8).tmod 8).toNat + 1, by omega, by omega, by rw [IntKind.wrap_i64]; omega⟩
theorem pow8 (n : Nat) : (256 : Int) ^ n = 2 ^ (8 * n) := by rw [Int.pow_mul]; rfl
theorem want_lt {n : Nat} (x : Int) (h : decide ((n : Int) < 8) = true) : bits .and .u64 x (IntKind.u64.wrap (IntKind.u64.wrap (2 ^ (8 * n)) - 1)) = x % 256 ^ n := by
  have h : n < 8 := by have := of_decide_eq_true h; omega
  have h1 : (2 : Int) ^ (8 * n) ≤ 2 ^ 56 := by
    have : (2 : Nat) ^ (8 * n) ≤ 2 ^ 56 := Nat.pow_le_pow_right (by omega) (by omega)
    have h := Int.ofNat_le.2 this
    simpa using h
  have h2 : (2 : Int) ^ 56 = 72057594037927936 := by rfl
  have h0 : (0 : Int) < 2 ^ (8 * n) := Int.pow_pos (by omega)
  have e : IntKind.u64.wrap (IntKind.u64.wrap (2 ^ (8 * n)) - 1) = 2 ^ (8 * n) - 1 := by
    rw [IntKind.wrap_u64, IntKind.wrap_u64]
    omega
  rw [e, u64_mask (8 * n) (by omega), pow8]
theorem want_8 {n : Nat} {x : Int} (hx : (Lit.int .u64 x).wf = true) (hn : n ≤ 8) (h : decide ((n : Int) < 8) = false) : x = x % 256 ^ n := by
  have h : ¬ n < 8 := by have := of_decide_eq_false h; omega
  obtain rfl : n = 8 := by omega
  simp [Lit.wf, IntKind.min, IntKind.max, IntKind.bits, IntKind.signed] at hx
  have : (256 : Int) ^ 8 = 18446744073709551616 := by rfl
  rw [this]
  omega
theorem puts_len {b : List Int} {n : Nat} {x : Int} (hl : b.length ≤ 1000000) (hn : n ≤ 8) : (((b ++ Pk.putL n x).length : Int) == IntKind.i64.wrap ((b.length : Int) + (n : Int))) = true := by
  rw [List.length_append, Pk.putL_length, IntKind.wrap_i64, beq_iff_eq]
  omega
theorem puts_num (n : Nat) (x : Int) : Pk.numL (((Pk.putL n x).drop 0).take n) = x % 256 ^ n := by
  rw [List.drop_zero, List.take_of_length_le (by rw [Pk.putL_length]; omega), Pk.numL_putL]
theorem byt_take {l : List Int} (h : Pk.Byt l) (k : Nat) : Pk.Byt (l.take k) := fun x hx => h x (List.mem_of_mem_take hx)
theorem byt_drop {l : List Int} (h : Pk.Byt l) (k : Nat) : Pk.Byt (l.drop k) := fun x hx => h x (List.mem_of_mem_drop hx)

end Go.Proofs.Ytihddficgpjgpaa.Y

/- Yjoin: more for readers -/
namespace Go.Proofs.Ytihddficgpjgpaa.Y
open Go.RowKit Go.ChangeShapes Go.WideShapes Go.ChangeAt

theorem fo_39_0 {d : Nat} {t : TypeId} {p : String} {af : Array Edge} {g : Option (Nat × Bool)} {x : Operand} : FieldOf1 Try.prog ⟨some d, .field 39 x 0, t, p, af, g⟩ x 0 2 := fun ev w c1 c3 v h1 h2 h3 => by
  match c1, c3, h2, h3 with
  | [], [a], _, _ =>
    have e : (Instr.field 39 (.agg #[v, a]) 0).run Try.prog w = .ok v w := by kernel_rfl
    go_simp
theorem rd_grownO {w w' : World} {g : Nat} {bs : List Int} {k : Nat} {b : Bool} {r : Option Nat} (h : Pk.RdAt w g bs k b) (hg : w.grownBy w' r) (hr : ∀ x, r = some x → g < x) : Pk.RdAt w' g bs k b := by
  cases r with
  | none => exact h.below (below_of_none hg)
  | some x => exact h.grown hg (hr x rfl)
/-- A row of a call's own is laid anew, or moved. -/
theorem StE.regrow {U : Prop} {N : Nat} {e : Env} {F0 : Cell → Prop} {a : Act} {w w' : World} {v v' : Value} (hu : ¬ U) (h : StE U N e (And2 F0 (Sl v 0)) a w) (hg : w.grownBy w' v.ownBlock) (h5 : v'.ownBlock = v.ownBlock ∨ v'.ownBlock = some w.heap.size) (hlt : ∀ g, v'.ownBlock = some g → g < w'.heap.size) : StE U N e (And2 F0 (Sl v' 0)) a w' := by
  have hkeep : Keeps (And2 F0 (Sl v 0)) w w' := ⟨hg.size, fun k hk hn => World.cell?_of_block (hg.block k.1 hk fun e => hn (.inr ⟨e.symm, Nat.zero_le _⟩)), fun b hb hn => hg.block b hb fun e => hn 0 (.inr ⟨e.symm, Nat.zero_le _⟩)⟩
  have hsub : ∀ k : Cell, k.1 < w.heap.size → And2 F0 (Sl v' 0) k → And2 F0 (Sl v 0) k := fun k hk h' => by
    rcases h' with h' | ⟨h1, h4⟩
    · exact .inl h'
    · rcases h5 with h5 | h5
      · exact .inr ⟨h5 ▸ h1, h4⟩
      · rw [h5] at h1; injection h1 with h1; omega
  refine ⟨h.size, h.defers, ⟨fun k hk => ?_, fun u => absurd u hu⟩, fun s k hs => (h.known s k hs).mono hkeep hsub⟩
  rcases hk with hk | ⟨hk, _⟩
  · exact Nat.lt_of_lt_of_le (h.fok.lt k (.inl hk)) hg.size
  · exact hlt _ hk
section
variable {U : Prop} {P : Program} {Q : Exit → Act → World → Prop} {N : Nat} {e : Env} {F F0 : Cell → Prop} {a : Act} {w : World}
/-- append(nil, l..), of which no cell is known from now on. -/
theorem copy0_step {ops : Array Oper} {rest : List Oper} {o : Oper} {α : Type} {L : Lay α} {enc : α → List Value} {B : Nat} {T E : TypeId} {l : List α} {i : TypeInfo} {z : Value} {bytes d : Nat} (hf : Flat L enc) (sx : Nat) (hu : ¬ U) (h : StE U N e F a w)
    (ho : o.op = .call { callee := .builtin .append, args := #[.const (.slice none 0 0), .tmp sx], argTypes := #[T, T] }) (hd : o.dst = some d) (hdN : decide (d < N) = true) (hgd : o.guard = none)
    (ht : P.underlying T = some (.slice E)) (hi : P.info? E = some i) (hz : i.zero = some z) (hsize : i.size = L.n) (hby : i.bytes = bytes) (hzs : z.cells.size = L.n) (hsz : 0 < L.n) (hb64 : bytes ≤ 64)
    (hsx : e.lookup sx = some (true, .one (Lay.sl L) l)) (hl : l.length ≤ 1000000) (hB : B ≤ w.heap.size)
    (hQ : ∀ v' a' w', Grows L enc B E F w' v' l → (∀ x, v'.ownBlock = some x → w.heap.size ≤ x) → Below w.heap.size w w' → StE U N ((d, true, .val v') :: e) (And2 F (Sl v' 0)) a' w' → wpList P ops Q rest a' w') : wpList P ops Q (o :: rest) a w := by
  obtain ⟨A, cp, e1, hr, _⟩ := reads_of_sl hf (h.get sx hsx)
  have hby2 : (0 + l.length) * bytes ≤ 140737488355328 := Nat.le_trans (Nat.mul_le_mul (show 0 + l.length ≤ 1000000 by omega) hb64) (by decide)
  have hdN' : d < N := by simpa using hdN
  refine wpList_plain hgd fun K hK => ?_
  refine wp_append_any w (.const (.slice none 0 0)) (.tmp sx) T ho w.heap.size E i z L.n bytes ht hi hz hsize hby hzs hsz (.slice none 0 0) 0 [] rfl (World.ownsRow_nil _ _ _ _) w.heap.size A l.length cp _ e1 hr (hf.ones l) (by unfold maxLen; omega) hby2 (Nat.le_refl _) fun v' w' h2 h3 _ => hK _ _ ?_
  have hb := below_of_none h3
  have hown : w'.ownsRow w.heap.size E L.n v' l.length (l.flatMap enc) := by simpa using h2
  have hG : Grows L enc B E F w' v' l := ⟨own_mono hown hB, fun g o hg hf0 => by
    have := own_base hown hg
    have := h.fok.lt (g, o) hf0
    simp only at this
    omega⟩
  have hF0' : FOK U F w' := h.fok.below hb
  have hsub : ∀ k : Cell, k.1 < w.heap.size → And2 F (Sl v' 0) k → F k := fun k hk h' => by
    rcases h' with h' | ⟨h1, _⟩
    · exact h'
    · have := own_base hown h1; omega
  have hst : StE U N e (And2 F (Sl v' 0)) a w' := ⟨h.size, h.defers, ⟨fun k hk => by
    rcases hk with h1 | ⟨h1, _⟩
    · exact hF0'.lt k h1
    · exact (hown.lt k.1 h1).2, fun u => absurd u hu⟩, fun s k hs => (h.known s k hs).mono (.of hb) hsub⟩
  rw [hd]
  exact hQ v' _ w' hG (fun x hx => own_base hown hx) hb (hst.put (Below.refl _ _) hdN' ⟨fun _ => rfl, fun e => by cases e⟩)
/-- Such a row grows by another; the whole is known then. -/
theorem app_step {ops : Array Oper} {rest : List Oper} {o : Oper} {α : Type} {L : Lay α} {enc : α → List Value} {B : Nat} {T E : TypeId} {v : Value} {l l2 : List α} {i : TypeInfo} {z : Value} {bytes d : Nat} (hf : Flat L enc) (sa sb : Nat) (hu : ¬ U) (h : StE U N e (And2 F0 (Sl v 0)) a w) (hG : Grows L enc B E F0 w v l)
    (ho : o.op = .call { callee := .builtin .append, args := #[.tmp sa, .tmp sb], argTypes := #[T, T] }) (hd : o.dst = some d) (hdN : decide (d < N) = true) (hgd : o.guard = none)
    (ht : P.underlying T = some (.slice E)) (hi : P.info? E = some i) (hz : i.zero = some z) (hsize : i.size = L.n) (hby : i.bytes = bytes) (hzs : z.cells.size = L.n) (hsz : 0 < L.n)
    (hsa : e.lookup sa = some (true, .val v)) (hsb : e.lookup sb = some (true, .one (Lay.sl L) l2)) (hB : B ≤ w.heap.size) (h63 : l.length + l2.length ≤ maxLen) (hbytes : (l.length + l2.length) * bytes ≤ 140737488355328)
    (hQ : ∀ a' w', w.grownBy w' v.ownBlock → StE U N ((d, true, .one (Lay.sl L) (l ++ l2)) :: e) F0 a' w' → wpList P ops Q rest a' w') : wpList P ops Q (o :: rest) a w := by
  have ea : a.eval (.tmp sa) = v := h.get sa hsa
  obtain ⟨A, cp, e1, hr, _⟩ := reads_of_sl hf (h.get sb hsb)
  have hdN' : d < N := by simpa using hdN
  refine wpList_plain hgd fun K hK => ?_
  refine wp_append_any w (.tmp sa) (.tmp sb) T ho B E i z L.n bytes ht hi hz hsize hby hzs hsz v l.length _ ea hG.own w.heap.size A l2.length cp _ e1 hr (hf.ones l2) h63 hbytes hB fun v' w' h2 h3 h4 => hK _ _ ?_
  have hap : (l ++ l2).length = l.length + l2.length := List.length_append
  have hown : w'.ownsRow B E L.n v' (l ++ l2).length ((l ++ l2).flatMap enc) := by rw [hap, List.flatMap_append]; exact h2
  have hst := (h.regrow hu h3 h4 fun g hg => (hown.lt g hg).2).less (F' := F0) fun _ h => .inl h
  rw [hd]
  refine hQ _ w' h3 (hst.put (Below.refl _ _) hdN' ⟨fun _ => sl_of_own hf hown fun g o hg _ hF => ?_, fun e => by cases e⟩)
  rcases h4 with h4 | h4
  · exact hG.dis g o (h4 ▸ hg) hF
  · rw [h4] at hg; cases hg
    exact Nat.lt_irrefl _ (h.fok.lt (w.heap.size, o) (.inl hF))
end
def okX (bs : List Int) (k n : Nat) : Bool := decide (k + n ≤ bs.length)
def numX (bs : List Int) (k n : Nat) : Int := if okX bs k n = true then Pk.numL ((bs.drop k).take n) else 0
def atX (bs : List Int) (k n : Nat) : Nat := if okX bs k n = true then k + n else k
theorem cNumX {w : World} {g : Nat} {bs : List Int} {k : Nat} (h : Pk.RdAt w g bs k false) (hB : Pk.Byt bs) (hm : bs.length ≤ 1000000) {n : Nat} (h1 : 1 ≤ n) (h8 : n ≤ 8) : Calls Try.prog 32 #[.pointer (some ⟨g, 0, none⟩), .int .i64 n] w fun e w' => e = .returned (.int .u64 (numX bs k n)) ∧ Pk.RdAt w' g bs (atX bs k n) (!okX bs k n) ∧ w.grownBy w' (some g) := by
  unfold numX atX
  cases ho : okX bs k n with
  | true => exact cNum h hB hm (of_decide_eq_true ho) h1 h8
  | false =>
    have := of_decide_eq_false ho
    have hl := h.at_le
    exact cNumF h hm (n := (n : Int)) (by omega) (by omega) (.inr (by omega))
theorem okX_join (a b : List Int) (n : Nat) : okX (a ++ b) a.length n = okX b 0 n := by
  unfold okX
  rw [List.length_append, decide_eq_decide]
  omega
theorem numX_join (a b : List Int) (n : Nat) : numX (a ++ b) a.length n = numX b 0 n := by
  unfold numX
  rw [okX_join, List.drop_left, List.drop_zero]
theorem atX_join (a b : List Int) (n : Nat) : (((a ++ b).length : Int) - (atX (a ++ b) a.length n : Int) != ((b.length : Int) - (atX b 0 n : Int))) = false := by
  unfold atX
  rw [okX_join]
  split
  · rw [List.length_append]; simp; omega
  · rw [List.length_append]; simp; omega
theorem joins_len {a b : List Int} (h : (decide ((500 : Int) < (a.length : Int)) || decide ((500 : Int) < (b.length : Int))) = false) : a.length ≤ 500 ∧ b.length ≤ 500 := by
  rw [Bool.or_eq_false_iff, decide_eq_false_iff_not, decide_eq_false_iff_not] at h
  omega
set_option maxRecDepth 100000 in
set_option maxHeartbeats 800000 in
/-- A label of a reader that has failed. -/
theorem cLabF {w : World} {g : Nat} {bs : List Int} {k : Nat} (h : Pk.RdAt w g bs k true) (hm : bs.length ≤ 1000000) :
    Calls Try.prog 40 #[.pointer (some ⟨g, 0, none⟩)] w fun e w' => e = .returned (.agg #[.int .i64 0, .slice none 0 0]) ∧ Pk.RdAt w' g bs k true ∧ w.grownBy w' (some g) := by
  have hl := h.lt
  have h0 := h.below ((Below.refl w.heap.size w).alloc (Nat.le_refl _) (.cells #[.int .i64 0, .slice none 0 0] 39))
  have hG0 : w.grownBy (w.alloc (.cells #[.int .i64 0, .slice none 0 0] 39)) (some g) := only_of_below ((Below.refl w.heap.size w).alloc (Nat.le_refl _) _) _
  have hB0 := Blk.new w 39 #[.int .i64 0, .slice none 0 0]
  go_enter Try.func40, Try.ntmps40
  go_upto_region 1 with fail
  clear h
  generalize hw1 : w.alloc (.cells #[.int .i64 0, .slice none 0 0] 39) = w1 at *
  go_upto_region 2 with (go_at_call 32; refine (cNumF h0 hm (n := 1) (by decide) (by decide) (.inl rfl)).mono ?_; rintro e w2 ⟨rfl, h2, g2⟩)
  have hw2 : w.heap.size < w2.heap.size := Nat.lt_of_lt_of_le hB0.lt g2.size
  have h3 := h2.below ((Below.refl w2.heap.size w2).alloc (Nat.le_refl _) (.cells #[.int .i64 0, .slice none 0 0] 39))
  have G3 : w.grownBy (w2.alloc (.cells #[.int .i64 0, .slice none 0 0] 39)) (some g) := only_alloc (only_trans hG0 g2) _
  have B3 : Blk (w2.alloc (.cells #[.int .i64 0, .slice none 0 0] 39)) w.heap.size 39 #[.int .i64 0, .slice none 0 0] := (hB0.grown g2 (by simp; omega)).alloc _
  generalize w2.alloc (.cells #[.int .i64 0, .slice none 0 0] 39) = w3 at *
  clear h2 h0 hB0 hG0 hw1
  go_wp2_with (go_at_call 32; refine (cNumF h3 hm (n := 1) (by decide) (by decide) (.inl rfl)).mono ?_; rintro e w4 ⟨rfl, h4, g4⟩)
  have B4 : Blk w4 w.heap.size 39 #[.int .i64 0, .slice none 0 0] := B3.grown g4 (by simp; omega)
  have G4 := only_trans G3 g4
  clear h3 g4 B3 G3
  go_loop [5] (fun v => v = .int .i64 0) (fun _ => 0)
  case atStart => rfl
  case round =>
    obtain rfl := hrel
    go_wp2_with (first
      | (go_at_call 33; refine (Pk.bad_any h4).mono ?_; rintro e w5 ⟨rfl, rfl⟩)
      | (go_at_call 39; refine (cFail h4).mono ?_; rintro e w5 ⟨rfl, h5, g5⟩; have B5 : Blk w5 w.heap.size 39 #[.int .i64 0, .slice none 0 0] := B4.grown g5 (by simp; omega); have G5 := only_trans G4 g5; have e0 := B5.cell 0; have e1 := B5.cell 1; have f0 := B5.frozen 0; have f1 := B5.frozen 1; simp at e0 e1))
    have K := (B5.set_ 0 (.int .i64 0)).set_ 1 (.slice none 0 0)
    have hg := only_setCell (only_setCell (only_refl w5 (some w.heap.size)) (p := ⟨w.heap.size, 0, none⟩) (.inl rfl) (.int .i64 0)) (p := ⟨w.heap.size, 1, none⟩) (.inl rfl) (.slice none 0 0)
    have hG := only_setCell (only_setCell G5 (p := ⟨w.heap.size, 0, none⟩) (.inr (Nat.le_refl _)) (.int .i64 0)) (p := ⟨w.heap.size, 1, none⟩) (.inr (Nat.le_refl _)) (.slice none 0 0)
    refine bodyPost_ret (results_cell_row rfl _ _ w.heap.size 39 #[.int .i64 0, .slice none 0 0] (0, 0) _ (by rfl) K Try.underlying39 rfl (by kernel_rfl)) rfl ?_
    exact ⟨rfl, h5.grown hg hl, hG⟩

end Go.Proofs.Ytihddficgpjgpaa.Y
