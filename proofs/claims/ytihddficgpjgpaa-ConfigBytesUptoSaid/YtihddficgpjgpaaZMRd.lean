/- MRd: Yread, Yfit3, Ylaw3, Yjoin, one behind the other. -/
import Derived.Test.YtihddficgpjgpaaZYpack
import Derived.Test.YtihddficgpjgpaaZHead
import Derived.Test.YtihddficgpjgpaaZYopen
import Derived.Test.YtihddficgpjgpaaZBits
namespace Go.Proofs.Ytihddficgpjgpaa.Y
open Go.RowKit Go.ChangeShapes Go.WideShapes Go.ChangeAt
section
variable {d : Nat} {t : TypeId} {p : String} {af : Array Edge} {g : Option (Nat × Bool)} {x x2 : Operand}
theorem sl_hi : ∀ (ev : Operand → Value) (w : World) (A : Option Addr) (len cap k : Nat), ev x = .slice A len cap → ev x2 = .int .i64 k → k ≤ cap → (execOp ev ⟨some d, .slice 22 x none (some x2) none, t, p, af, g⟩).run Try.prog w = .ok (.value (.slice A k cap)) w := fun ev w A len cap k h1 h2 h3 => by
  have e1 : (0 : Int) ≤ (k : Int) ∧ (k : Int) ≤ (cap : Int) := by omega
  go_simp
theorem b_mul_3 {a b : Int} : Run2 Try.prog ⟨some d, .binOp .mul 3 x x2 3, t, p, af, g⟩ x x2 (.int .i64 a) (.int .i64 b) (.int .i64 (IntKind.i64.wrap (a * b))) := fun ev w h1 h2 => by go_simp
end
section
variable {P : Program} {U : Prop} {ops : Array Oper} {Q : Exit → Act → World → Prop} {N d : Nat} {e : Env} {t : TypeId} {p : String} {af : Array Edge} {g : Option (Nat × Bool)} {c : Bool} {x x2 : Operand}
theorem p_cvE {u u' : TypeId} {v : Value} {k : IntKind} {n n' : Int} (hn : n = n') (hg : GdE ops e g c) (hx : OpdE e c x (.val v)) (hr : Run1 P ⟨some d, .convert u u' x, t, p, af, g⟩ x v (.int k n)) : Pays U P ops Q N e ⟨some d, .convert u u' x, t, p, af, g⟩ (c, .int k n') := hn ▸ p_conv hg hx hr
theorem p_binE {u u' : TypeId} {o : BinOp} {v1 v2 : Value} {k : IntKind} {n n' : Int} (hn : n = n') (hg : GdE ops e g c) (hx : OpdE e c x (.val v1)) (hx2 : OpdE e c x2 (.val v2)) (hr : Run2 P ⟨some d, .binOp o u x x2 u', t, p, af, g⟩ x x2 v1 v2 (.int k n)) : Pays U P ops Q N e ⟨some d, .binOp o u x x2 u', t, p, af, g⟩ (c, .int k n') := hn ▸ p_bin hg hx hx2 hr
theorem p_slHi {l : List Int} {k : Nat} (hk : k ≤ l.length) (hg : GdE ops e g c) (hx : OpdE e c x (.by l)) (hx2 : OpdE e c x2 (.int .i64 k)) : Pays U Try.prog ops Q N e ⟨some d, .slice 22 x none (some x2) none, t, p, af, g⟩ (c, .by (l.take k)) :=
  pVal hg fun e a w F hk' => by
    obtain ⟨A, cp, e1, h2, h3⟩ := hx a w F (fun s hs => hk' s (by simp [Op.operands, hs])) e
    have e2 := hx2 a w F (fun s hs => hk' s (by simp [Op.operands, hs])) e
    simp only [List.cons.injEq, and_true] at e1
    have hl : (l.take k).length = k := by simp; omega
    refine ⟨_, sl_hi _ w A _ _ k e1 e2 (by omega), A, cp, by rw [hl], fun hp => ?_, by omega⟩
    obtain ⟨b, off, rfl, h4, h6⟩ := h2 (by omega)
    refine ⟨b, off, rfl, h4, fun i hi => ?_⟩
    have hi' : i < l.length := by omega
    obtain ⟨cs, h7, h8⟩ := h6 i hi'
    exact ⟨cs, by rw [List.getElem_take]; exact h7, h8⟩
end
theorem rd_blk {w : World} {g : Nat} {bs : List Int} {k : Nat} {b : Bool} (h : Pk.RdAt w g bs k b) (o : Nat) (x : Int) : w.cell? ⟨g, o, none⟩ ≠ some (.int .u32 x) := by
  obtain ⟨A, c, hb, _⟩ := h
  rw [hb.cell]
  rcases o with _ | _ | _ | o <;> simp
section
variable {w : World} {g : Nat} {bs : List Int} {k : Nat} {b : Bool}
theorem cBad (h : Pk.RdAt w g bs k b) : Calls Try.prog 33 #[.pointer (some ⟨g, 0, none⟩)] w fun e w' => e = .returned (.bool b) ∧ Pk.RdAt w' g bs k b ∧ w.grownBy w' (some g) := (Pk.bad_any h).mono (by rintro _ w' ⟨rfl, rfl⟩; exact ⟨rfl, h, only_refl _ _⟩)
theorem cRest (h : Pk.RdAt w g bs k b) (hm : bs.length ≤ 1000000) : Calls Try.prog 34 #[.pointer (some ⟨g, 0, none⟩)] w fun e w' => e = .returned (.int .i64 ((bs.length : Int) - k)) ∧ Pk.RdAt w' g bs k b ∧ w.grownBy w' (some g) := (Pk.rest_any h hm).mono (by rintro _ w' ⟨rfl, hb⟩; exact ⟨rfl, h.below hb, only_of_below hb _⟩)
theorem cFail (h : Pk.RdAt w g bs k b) : Calls Try.prog 39 #[.pointer (some ⟨g, 0, none⟩)] w fun e w' => e = .returned (.tuple #[]) ∧ Pk.RdAt w' g bs k true ∧ w.grownBy w' (some g) := Pk.fail_any h
theorem cNum (h : Pk.RdAt w g bs k false) (hB : Pk.Byt bs) (hm : bs.length ≤ 1000000) {n : Nat} (hn : k + n ≤ bs.length) (h1 : 1 ≤ n) (h8 : n ≤ 8) : Calls Try.prog 32 #[.pointer (some ⟨g, 0, none⟩), .int .i64 n] w fun e w' => e = .returned (.int .u64 (Pk.numL ((bs.drop k).take n))) ∧ Pk.RdAt w' g bs (k + n) false ∧ w.grownBy w' (some g) := Pk.num_ok h hB hm n hn h1 h8
theorem cNumF (h : Pk.RdAt w g bs k b) (hm : bs.length ≤ 1000000) {n : Int} (h1 : 1 ≤ n) (h8 : n ≤ 8) (hn : b = true ∨ (bs.length : Int) - k < n) : Calls Try.prog 32 #[.pointer (some ⟨g, 0, none⟩), .int .i64 n] w fun e w' => e = .returned (.int .u64 0) ∧ Pk.RdAt w' g bs k true ∧ w.grownBy w' (some g) := Pk.num_fail h hm n h1 h8 hn
theorem cTake (h : Pk.RdAt w g bs k false) (hm : bs.length ≤ 1000000) {n : Nat} (hn : k + n ≤ bs.length) : Calls Try.prog 35 #[.pointer (some ⟨g, 0, none⟩), .int .i64 n] w fun e w' => ∃ v, e = .returned v ∧ w'.ownsRow w.heap.size 5 1 v ((bs.drop k).take n).length (((bs.drop k).take n).flatMap byE) ∧ Pk.RdAt w' g bs (k + n) false ∧ w.grownBy w' (some g) := (Pk.take_ok h hm n hn).mono (by
  rintro _ w' ⟨v, rfl, h1, h2, h3⟩
  exact ⟨v, rfl, by rw [flat_u8s, show ((bs.drop k).take n).length = n by simp; omega]; exact h1, h2, h3⟩)
theorem cTakeF (h : Pk.RdAt w g bs k b) (hm : bs.length ≤ 1000000) {n : Int} (hn : b = true ∨ n < 0 ∨ (bs.length : Int) - k < n) : Calls Try.prog 35 #[.pointer (some ⟨g, 0, none⟩), .int .i64 n] w fun e w' => e = .returned (.slice none 0 0) ∧ Pk.RdAt w' g bs k true ∧ w.grownBy w' (some g) := Pk.take_fail h hm n hn
end
section
variable {U : Prop} {Q : Exit → Act → World → Prop} {N : Nat} {e : Env} {F : Cell → Prop} {a : Act} {w : World} {ops : Array Oper} {rest : List Oper} {o : Oper}
theorem rd_on {f : FuncId} {bs : List Int} {d g k : Nat} {b : Bool} {r : Value} (A : List Operand) (h : StE U N e F a w) (hF : ∀ o, F (g, o)) (hw : Region.wanted o (yielded ops a.tmps) = true) (hr : CallRun Try.prog o A f) (hd : o.dst = some d) (hdN : decide (d < N) = true)
    (HC : Calls Try.prog f (A.map a.eval).toArray w fun e w' => e = .returned r ∧ Pk.RdAt w' g bs k b ∧ w.grownBy w' (some g))
    (hQ : ∀ a' w', Pk.RdAt w' g bs k b → w.grownBy w' (some g) → StE U N ((d, true, .val r) :: e) F a' w' → wpList Try.prog ops Q rest a' w') : wpList Try.prog ops Q (o :: rest) a w := by
  refine call_on f A hw hr (HC.mono ?_)
  rintro _ w' ⟨rfl, h1, h2⟩
  refine ⟨_, rfl, ?_⟩
  rw [hd]
  exact hQ _ w' h1 h2 ((h.wroteB h2 hF fun _ => rd_blk h1).put (Below.refl _ _) (by simpa using hdN) ⟨fun _ => rfl, fun e => by cases e⟩)
end
end Go.Proofs.Ytihddficgpjgpaa.Y
namespace Go.Proofs.Ytihddficgpjgpaa.Y
open Go.RowKit Go.ChangeShapes Go.WideShapes Go.ChangeAt
/-- append(nil, l..): a list of the call's own. -/
theorem p_append0 {P : Program} {U : Prop} {ops : Array Oper} {Q : Exit → Act → World → Prop} {N d : Nat} {e : Env} {t : TypeId} {p : String} {af : Array Edge} {g : Option (Nat × Bool)} {c : Bool} {x : Operand} {T E : TypeId} {α : Type} {L : Lay α} {enc : α → List Value} {l : List α} {i : TypeInfo} {z : Value} {bytes : Nat} (hf : Flat L enc) (ht : P.underlying T = some (.slice E)) (hi : P.info? E = some i) (hz : i.zero = some z) (hsize : i.size = L.n) (hby : i.bytes = bytes) (hzs : z.cells.size = L.n) (hsz : 0 < L.n) (hb40 : bytes ≤ 64) (hl : l.length ≤ 1000000)
    (hg : GdE ops e g c) (hx : OpdE e c x (.one (Lay.sl L) l)) : Pays U P ops Q N e ⟨some d, .call { callee := .builtin .append, args := #[.const (.slice none 0 0), x], argTypes := #[T, T] }, t, p, af, g⟩ (c, .one (Lay.sl L) l) :=
  pOf hg fun e a w F hF hk R hR => by
    have h1 := hx a w F (fun s hs => hk s (by simp [Op.operands, Call.operands, hs])) e
    obtain ⟨A, cp, e1, hr, _⟩ := reads_of_sl hf h1
    have hby2 : (0 + l.length) * bytes ≤ 140737488355328 := Nat.le_trans (Nat.mul_le_mul (show 0 + l.length ≤ 1000000 by omega) hb40) (by decide)
    refine wp_append_any w (.const (.slice none 0 0)) x T rfl w.heap.size E i z L.n bytes ht hi hz hsize hby hzs hsz (.slice none 0 0) 0 [] rfl (World.ownsRow_nil _ _ _ _) w.heap.size A l.length cp _ e1 hr (hf.ones l) (by unfold maxLen; omega) hby2 (Nat.le_refl _) fun v' w' h2 h3 _ => ?_
    refine hR v' w' (below_of_none h3) (sl_of_own hf (by simpa using h2) fun g o hg _ hf => ?_)
    have := own_base h2 hg
    have := hF.lt (g, o) hf
    simp only at this
    omega
theorem byt_wf {l : List Int} (h : ∀ x ∈ l, (Lit.int .u8 x).wf = true) : Pk.Byt l := fun x hx => by
  have := h x hx
  simp [Lit.wf, IntKind.min, IntKind.max, IntKind.bits, IntKind.signed] at this
  omega
theorem byt_take {l : List Int} (h : Pk.Byt l) (k : Nat) : Pk.Byt (l.take k) := fun x hx => h x (List.mem_of_mem_take hx)
theorem byt_drop {l : List Int} (h : Pk.Byt l) (k : Nat) : Pk.Byt (l.drop k) := fun x hx => h x (List.mem_of_mem_drop hx)
end Go.Proofs.Ytihddficgpjgpaa.Y
namespace Go.Proofs.Ytihddficgpjgpaa.Y
open Go.RowKit Go.ChangeShapes Go.WideShapes Go.ChangeAt
theorem rd_grownO {w w' : World} {g : Nat} {bs : List Int} {k : Nat} {b : Bool} {r : Option Nat} (h : Pk.RdAt w g bs k b) (hg : w.grownBy w' r) (hr : ∀ x, r = some x → g < x) : Pk.RdAt w' g bs k b := by
  cases r with
  | none => exact h.below (below_of_none hg)
  | some x => exact h.grown hg (hr x rfl)
/-- A row of a call's own is laid anew, or moved. -/
theorem StE.regrow {U : Prop} {N : Nat} {e : Env} {F0 : Cell → Prop} {a : Act} {w w' : World} {v v' : Value} (hu : ¬ U) (h : StE U N e (And2 F0 (Sl v 0)) a w) (hg : w.grownBy w' v.ownBlock) (h5 : v'.ownBlock = v.ownBlock ∨ v'.ownBlock = some w.heap.size) (hlt : ∀ g, v'.ownBlock = some g → g < w'.heap.size) : StE U N e (And2 F0 (Sl v' 0)) a w' := by
  have hkeep : Keeps (And2 F0 (Sl v 0)) w w' := ⟨hg.size, fun k hk hn => World.cell?_of_block (hg.block k.1 hk fun e => hn (.inr ⟨e.symm, Nat.zero_le _⟩)), fun b hb hn => hg.block b hb fun e => hn 0 (.inr ⟨e.symm, Nat.zero_le _⟩)⟩
  have hsub : ∀ k : Cell, k.1 < w.heap.size → And2 F0 (Sl v' 0) k → And2 F0 (Sl v 0) k := fun k hk h' => by
    rcases h' with h' | ⟨h1, h4⟩
    · exact .inl h'
    · rcases h5 with h5 | h5
      · exact .inr ⟨h5 ▸ h1, h4⟩
      · rw [h5] at h1; injection h1 with h1; omega
  refine ⟨h.size, h.defers, ⟨fun k hk => ?_, fun u => absurd u hu⟩, fun s k hs => (h.known s k hs).mono hkeep hsub⟩
  rcases hk with hk | ⟨hk, _⟩
  · exact Nat.lt_of_lt_of_le (h.fok.lt k (.inl hk)) hg.size
  · exact hlt _ hk
section
variable {U : Prop} {P : Program} {Q : Exit → Act → World → Prop} {N : Nat} {e : Env} {F F0 : Cell → Prop} {a : Act} {w : World}
/-- append(nil, l..), of which no cell is known from now on. -/
theorem copy0_step {ops : Array Oper} {rest : List Oper} {o : Oper} {α : Type} {L : Lay α} {enc : α → List Value} {B : Nat} {T E : TypeId} {l : List α} {i : TypeInfo} {z : Value} {bytes d : Nat} (hf : Flat L enc) (sx : Nat) (hu : ¬ U) (h : StE U N e F a w)
    (ho : o.op = .call { callee := .builtin .append, args := #[.const (.slice none 0 0), .tmp sx], argTypes := #[T, T] }) (hd : o.dst = some d) (hdN : decide (d < N) = true) (hgd : o.guard = none)
    (ht : P.underlying T = some (.slice E)) (hi : P.info? E = some i) (hz : i.zero = some z) (hsize : i.size = L.n) (hby : i.bytes = bytes) (hzs : z.cells.size = L.n) (hsz : 0 < L.n) (hb64 : bytes ≤ 64)
    (hsx : e.lookup sx = some (true, .one (Lay.sl L) l)) (hl : l.length ≤ 1000000) (hB : B ≤ w.heap.size)
    (hQ : ∀ v' a' w', Grows L enc B E F w' v' l → (∀ x, v'.ownBlock = some x → w.heap.size ≤ x) → Below w.heap.size w w' → StE U N ((d, true, .val v') :: e) (And2 F (Sl v' 0)) a' w' → wpList P ops Q rest a' w') : wpList P ops Q (o :: rest) a w := by
  obtain ⟨A, cp, e1, hr, _⟩ := reads_of_sl hf (h.get sx hsx)
  have hby2 : (0 + l.length) * bytes ≤ 140737488355328 := Nat.le_trans (Nat.mul_le_mul (show 0 + l.length ≤ 1000000 by omega) hb64) (by decide)
  have hdN' : d < N := by simpa using hdN
  refine wpList_plain hgd fun K hK => ?_
  refine wp_append_any w (.const (.slice none 0 0)) (.tmp sx) T ho w.heap.size E i z L.n bytes ht hi hz hsize hby hzs hsz (.slice none 0 0) 0 [] rfl (World.ownsRow_nil _ _ _ _) w.heap.size A l.length cp _ e1 hr (hf.ones l) (by unfold maxLen; omega) hby2 (Nat.le_refl _) fun v' w' h2 h3 _ => hK _ _ ?_
  have hb := below_of_none h3
  have hown : w'.ownsRow w.heap.size E L.n v' l.length (l.flatMap enc) := by simpa using h2
  have hG : Grows L enc B E F w' v' l := ⟨own_mono hown hB, fun g o hg hf0 => by
    have := own_base hown hg
    have := h.fok.lt (g, o) hf0
    simp only at this
    omega⟩
  have hF0' : FOK U F w' := h.fok.below hb
  have hsub : ∀ k : Cell, k.1 < w.heap.size → And2 F (Sl v' 0) k → F k := fun k hk h' => by
    rcases h' with h' | ⟨h1, _⟩
    · exact h'
    · have := own_base hown h1; omega
  have hst : StE U N e (And2 F (Sl v' 0)) a w' := ⟨h.size, h.defers, ⟨fun k hk => by
    rcases hk with h1 | ⟨h1, _⟩
    · exact hF0'.lt k h1
    · exact (hown.lt k.1 h1).2, fun u => absurd u hu⟩, fun s k hs => (h.known s k hs).mono (.of hb) hsub⟩
  rw [hd]
  exact hQ v' _ w' hG (fun x hx => own_base hown hx) hb (hst.put (Below.refl _ _) hdN' ⟨fun _ => rfl, fun e => by cases e⟩)
/-- Such a row grows by another; the whole is known then. -/
theorem app_step {ops : Array Oper} {rest : List Oper} {o : Oper} {α : Type} {L : Lay α} {enc : α → List Value} {B : Nat} {T E : TypeId} {v : Value} {l l2 : List α} {i : TypeInfo} {z : Value} {bytes d : Nat} (hf : Flat L enc) (sa sb : Nat) (hu : ¬ U) (h : StE U N e (And2 F0 (Sl v 0)) a w) (hG : Grows L enc B E F0 w v l)
    (ho : o.op = .call { callee := .builtin .append, args := #[.tmp sa, .tmp sb], argTypes := #[T, T] }) (hd : o.dst = some d) (hdN : decide (d < N) = true) (hgd : o.guard = none)
    (ht : P.underlying T = some (.slice E)) (hi : P.info? E = some i) (hz : i.zero = some z) (hsize : i.size = L.n) (hby : i.bytes = bytes) (hzs : z.cells.size = L.n) (hsz : 0 < L.n)
    (hsa : e.lookup sa = some (true, .val v)) (hsb : e.lookup sb = some (true, .one (Lay.sl L) l2)) (hB : B ≤ w.heap.size) (h63 : l.length + l2.length ≤ maxLen) (hbytes : (l.length + l2.length) * bytes ≤ 140737488355328)
    (hQ : ∀ a' w', w.grownBy w' v.ownBlock → StE U N ((d, true, .one (Lay.sl L) (l ++ l2)) :: e) F0 a' w' → wpList P ops Q rest a' w') : wpList P ops Q (o :: rest) a w := by
  have ea : a.eval (.tmp sa) = v := h.get sa hsa
  obtain ⟨A, cp, e1, hr, _⟩ := reads_of_sl hf (h.get sb hsb)
  have hdN' : d < N := by simpa using hdN
  refine wpList_plain hgd fun K hK => ?_
  refine wp_append_any w (.tmp sa) (.tmp sb) T ho B E i z L.n bytes ht hi hz hsize hby hzs hsz v l.length _ ea hG.own w.heap.size A l2.length cp _ e1 hr (hf.ones l2) h63 hbytes hB fun v' w' h2 h3 h4 => hK _ _ ?_
  have hap : (l ++ l2).length = l.length + l2.length := List.length_append
  have hown : w'.ownsRow B E L.n v' (l ++ l2).length ((l ++ l2).flatMap enc) := by rw [hap, List.flatMap_append]; exact h2
  have hst := (h.regrow hu h3 h4 fun g hg => (hown.lt g hg).2).less (F' := F0) fun _ h => .inl h
  rw [hd]
  refine hQ _ w' h3 (hst.put (Below.refl _ _) hdN' ⟨fun _ => sl_of_own hf hown fun g o hg _ hF => ?_, fun e => by cases e⟩)
  rcases h4 with h4 | h4
  · exact hG.dis g o (h4 ▸ hg) hF
  · rw [h4] at hg; cases hg
    exact Nat.lt_irrefl _ (h.fok.lt (w.heap.size, o) (.inl hF))
end
end Go.Proofs.Ytihddficgpjgpaa.Y
