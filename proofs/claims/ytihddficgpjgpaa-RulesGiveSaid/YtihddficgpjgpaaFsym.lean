/- What is known of values of this program: labels, seeds, variables that hold them; what each kind of operation yields. -/
import Derived.Test.YtihddficgpjgpaaFlow
import Derived.Test.YtihddficgpjgpaaSeed
import Derived.Deep.MidRow
import Derived.Great.BuildSlice
import Derived.Laws.CopyOwn
namespace Go.Proofs.Ytihddficgpjgpaa
open Go.RowKit

/-- Cells that hold labels, one behind the other. -/
def LabsAt (w : World) (B : Nat) : List Value → List Lab → Prop
  | cs, [] => cs = []
  | cs, l :: ls => ∃ (A : Option Addr) (c : Nat) (rest : List Value), cs = .int .i64 l.d :: .slice A l.ps.length c :: rest ∧ PairsAt w B A l.ps ∧ l.ps.length ≤ c ∧ LabsAt w B rest ls
theorem LabsAt.keep {w w' : World} {B B' : Nat} (hk : ∀ A l, PairsAt w B A l → PairsAt w' B' A l) : ∀ {ls : List Lab} {cs : List Value}, LabsAt w B cs ls → LabsAt w' B' cs ls
  | [], _, h => h
  | _ :: _, _, ⟨A, c, rest, h1, h2, h3, h4⟩ => ⟨A, c, rest, h1, hk _ _ h2, h3, LabsAt.keep hk h4⟩
theorem LabsAt.length {w : World} {B : Nat} : ∀ {ls : List Lab} {cs : List Value}, LabsAt w B cs ls → cs.length = 2 * ls.length
  | [], _, h => by simp [LabsAt] at h; simp [h]
  | _ :: _, _, ⟨A, c, rest, h1, h2, h3, h4⟩ => by rw [h1]; simp [h4.length]; omega
theorem LabsAt.one {w : World} {B : Nat} : ∀ {ls : List Lab} {cs : List Value}, LabsAt w B cs ls → ∀ u ∈ cs, u.oneCell' = true
  | [], _, h, u, hu => by simp [LabsAt] at h; simp [h] at hu
  | _ :: _, _, ⟨A, c, rest, h1, h2, h3, h4⟩, u, hu => by
    subst h1
    simp at hu
    rcases hu with rfl | rfl | hu
    · rfl
    · rfl
    · exact h4.one u hu
theorem LabsAt.drop {w : World} {B : Nat} : ∀ {ls : List Lab} {cs : List Value} (k : Nat), LabsAt w B cs ls → LabsAt w B (cs.drop (2 * k)) (ls.drop k)
  | ls, cs, 0, h => h
  | [], cs, k + 1, h => by simp [LabsAt] at h; subst h; simp [LabsAt]
  | _ :: _, _, k + 1, ⟨A, c, rest, h1, h2, h3, h4⟩ => by
    subst h1
    have := h4.drop k
    simpa [show 2 * (k + 1) = 2 * k + 1 + 1 by omega] using this
theorem LabsAt.take {w : World} {B : Nat} : ∀ {ls : List Lab} {cs : List Value} (k : Nat), LabsAt w B cs ls → LabsAt w B (cs.take (2 * k)) (ls.take k)
  | ls, cs, 0, h => by simp [LabsAt]
  | [], cs, k + 1, h => by simp [LabsAt] at h; subst h; simp [LabsAt]
  | _ :: _, _, k + 1, ⟨A, c, rest, h1, h2, h3, h4⟩ => by
    subst h1
    have := h4.take k
    refine ⟨A, c, rest.take (2 * k), ?_, h2, h3, this⟩
    simp [show 2 * (k + 1) = 2 * k + 1 + 1 by omega]
theorem LabsAt.app {w : World} {B : Nat} : ∀ {ls ls' : List Lab} {cs cs' : List Value}, LabsAt w B cs ls → LabsAt w B cs' ls' → LabsAt w B (cs ++ cs') (ls ++ ls')
  | [], _, _, _, h, h' => by simp [LabsAt] at h; subst h; exact h'
  | _ :: _, _, _, _, ⟨A, c, rest, h1, h2, h3, h4⟩, h' => by
    subst h1
    exact ⟨A, c, _, by simp, h2, h3, h4.app h'⟩
def LabsV (w : World) (B : Nat) (v : Value) (ls : List Lab) : Prop := ∃ cs : List Value, v = .agg cs.toArray ∧ LabsAt w B cs ls
theorem labsV_one {w : World} {B : Nat} {v : Value} {l : Lab} : LabsV w B v [l] ↔ LabV w B v l := by
  constructor
  · rintro ⟨cs, rfl, A, c, rest, rfl, h2, h3, h4⟩
    obtain rfl : rest = [] := h4
    exact ⟨A, c, rfl, h2, h3⟩
  · rintro ⟨A, c, rfl, h2, h3⟩
    exact ⟨[.int .i64 l.d, .slice A l.ps.length c], rfl, A, c, [], rfl, h2, h3, rfl⟩
theorem LabsV.below {w w' : World} {v : Value} {ls : List Lab} (h : LabsV w w.heap.size v ls) (hb : Below w.heap.size w w') : LabsV w' w'.heap.size v ls := by
  obtain ⟨cs, h1, h2⟩ := h
  exact ⟨cs, h1, h2.keep fun _ _ p => (p.below hb).more hb.size⟩

def Sym.any : Sym := ⟨fun _ _ => True, fun h _ => h⟩
def Sym.val (x : Value) : Sym := ⟨fun _ v => v = x, fun h _ => h⟩
def Sym.bool (b : Bool) : Sym := .val (.bool b)
def Sym.int (n : Int) : Sym := .val (.int .i64 n)
def Sym.u32 (n : Int) : Sym := .val (.int .u32 n)
def Sym.labs (ls : List Lab) : Sym := ⟨fun w v => LabsV w w.heap.size v ls, fun h hb => h.below hb⟩
def Sym.lab (l : Lab) : Sym := .labs [l]
def Sym.seed (l : Lab) : Sym := ⟨fun w v => SeedV w w.heap.size v l, fun h hb => (h.below hb (Nat.le_refl _)).more hb.size⟩
/-- The place of the k-th label of a variable. -/
def Sym.var (t : TypeId) (ls : List Lab) (k : Nat) : Sym := ⟨fun w v => ∃ g cs, v = .pointer (some ⟨g, 2 * k, none⟩) ∧ Blk w g t cs ∧ LabsAt w w.heap.size cs.toList ls, by
  rintro w w' v ⟨g, cs, h1, h2, h3⟩ hb
  exact ⟨g, cs, h1, h2.below hb h2.lt, h3.keep fun _ _ p => (p.below hb).more hb.size⟩⟩
def Sym.box (l : Lab) : Sym := .var 39 [l] 0
/-- The place of a seed. -/
def Sym.sbox (l : Lab) : Sym := ⟨fun w v => ∃ g o c0 c1, v = .pointer (some ⟨g, o, none⟩) ∧ g < w.heap.size ∧ w.cell? ⟨g, o, none⟩ = some c0 ∧ w.cell? ⟨g, o + 1, none⟩ = some c1 ∧ SeedV w w.heap.size (.agg #[c0, c1]) l, by
  rintro w w' v ⟨g, o, c0, c1, h1, h2, h3, h4, h5⟩ hb
  exact ⟨g, o, c0, c1, h1, Nat.lt_of_lt_of_le h2 hb.size, (hb.cell (p := ⟨g, o, none⟩) h2).trans h3, (hb.cell (p := ⟨g, o + 1, none⟩) h2).trans h4, (h5.below hb (Nat.le_refl _)).more hb.size⟩⟩
/-- A new variable that holds labels of no pairs. -/
def Sym.fresh (t : TypeId) (n : Nat) : Sym := ⟨fun w v => ∃ g cs, v = .pointer (some ⟨g, 0, none⟩) ∧ Blk w g t cs ∧ cs.size = 2 * n ∧ ∀ (i : Nat) (u : Value), cs[i]? = some u → ∀ x : Int, u ≠ Value.int .u32 x, by
  rintro w w' v ⟨g, cs, h1, h2, h3⟩ hb
  exact ⟨g, cs, h1, h2.below hb h2.lt, h3⟩⟩

section
variable {ops : Array Oper} {Q : Exit → Act → World → Prop} {K : Nat → Bool × Sym} {N : Nat}

/-- What is known of an operand where the operation runs. -/
def Opd (K : Nat → Bool × Sym) (c : Bool) (x : Operand) (y : Sym) : Prop := ∀ a w, (∀ s ∈ slotsOf x, Known K a w s) → c = true → y.on w (a.eval x)
theorem opd {s : Nat} {cs c : Bool} {y : Sym} (h : K s = (cs, y)) (hc : c = true → cs = true) : Opd K c (.tmp s) y := fun a w hk e => by
  have := (hk s (by simp [slotsOf])).1
  rw [h] at this
  exact this (hc e)
theorem opc {c : Bool} (v : Value) : Opd K c (.const v) (.val v) := fun _ _ _ _ => rfl

/-- Where an operation runs. -/
def Gd (ops : Array Oper) (K : Nat → Bool × Sym) (g : Option (Nat × Bool)) (c : Bool) : Prop :=
  ∀ a w o, o.guard = g → (∀ s ∈ guardSlots ops o, Known K a w s) → Region.wanted o (yielded ops a.tmps) = c
theorem gd0 : Gd ops K none true := fun a w o hg _ => by simp [Region.wanted, hg]
theorem gd {g sg : Nat} {b cg x : Bool} (hs : (ops[g]?).bind (·.dst) = some sg) (hK : K sg = (cg, .bool x)) : Gd ops K (some (g, b)) (cg && (x == b)) := fun a w o hg hk => by
  have hk := hk sg (by simp [guardSlots, hg, hs])
  unfold Known KnownV at hk
  rw [hK] at hk
  have hy : ∀ u, a.tmps.getD sg undef = .bool u → yielded ops a.tmps g = some u := fun u hu => by
    unfold yielded
    rw [hs]
    rw [Array.getD_eq_getD_getElem?] at hu
    cases hq : a.tmps[sg]? with
    | none => rw [hq] at hu; cases hu
    | some q => rw [hq] at hu; simp at hu; subst hu; simp [hq]
  have hn : a.tmps.getD sg undef = undef → yielded ops a.tmps g = none := fun hu => by
    unfold yielded
    rw [hs]
    rw [Array.getD_eq_getD_getElem?] at hu
    cases hq : a.tmps[sg]? with
    | none => simp [hq]
    | some q => rw [hq] at hu; simp at hu; subst hu; simp [hq, undef]
  simp only [Region.wanted, hg]
  cases cg with
  | true => rw [hy x (hk.1 rfl)]; cases x <;> cases b <;> rfl
  | false => rw [hn (hk.2 rfl)]; rfl

/-- An operation pays, if it does where it runs. -/
theorem okOf {d : Nat} {op : Op} {t : TypeId} {p : String} {af : Array Edge} {g : Option (Nat × Bool)} {c : Bool} {y : Sym} (hK : K d = (c, y)) (hg : Gd ops K g c) (hA : isAlloc ⟨some d, op, t, p, af, g⟩ = false)
    (h : c = true → ∀ a w, (∀ s ∈ op.operands.toList.flatMap slotsOf, Known K a w s) → ∀ R : Act → World → Prop, (∀ v w', Below w.heap.size w w' → y.on w' v → R (a.put (some d) v) w') → (⟨some d, op, t, p, af, g⟩ : Oper).wp Try.prog a w R Q) :
    OpOK Try.prog ops Q K N ⟨some d, op, t, p, af, g⟩ := fun a w _ hk R hR => by
  have hk1 := fun s hs => hk s (List.mem_append_left _ hs)
  have hk2 := fun s hs => hk s (List.mem_append_right _ hs)
  rw [hg a w _ rfl hk1]
  cases c with
  | true =>
    rw [if_pos rfl]
    refine h rfl a w hk2 R (fun v w' hb hv => hR v w' hb (fun d' hd => ?_) (fun e => (by rw [hA] at e; cases e)))
    cases hd
    rw [hK]
    exact ⟨fun _ => hv, (fun e => by cases e)⟩
  | false =>
    rw [if_neg (by simp)]
    refine hR undef w (Below.refl _ _) (fun d' hd => ?_) (fun e => by rw [hA] at e; cases e)
    cases hd
    rw [hK]
    exact ⟨(fun e => by cases e), fun _ => rfl⟩
/-- An operation that yields a value and leaves memory. -/
theorem okVal {d : Nat} {op : Op} {t : TypeId} {p : String} {af : Array Edge} {g : Option (Nat × Bool)} {c : Bool} {y : Sym} (hK : K d = (c, y)) (hg : Gd ops K g c) (hA : isAlloc ⟨some d, op, t, p, af, g⟩ = false)
    (h : c = true → ∀ a w, (∀ s ∈ op.operands.toList.flatMap slotsOf, Known K a w s) → ∃ v, (execOp a.eval ⟨some d, op, t, p, af, g⟩).run Try.prog w = .ok (.value v) w ∧ y.on w v) :
    OpOK Try.prog ops Q K N ⟨some d, op, t, p, af, g⟩ :=
  okOf hK hg hA fun e a w hk R hR => by
    obtain ⟨v, h1, h2⟩ := h e a w hk
    unfold Oper.wp
    rw [h1]
    exact hR v w (Below.refl _ _) h2

section
variable {d : Nat} {t : TypeId} {p : String} {af : Array Edge} {g : Option (Nat × Bool)} {c : Bool} {y : Sym} {x x2 : Operand} {l : Lab}
theorem ok_move (hK : K d = (c, y)) (hg : Gd ops K g c) (hx : Opd K c x y) : OpOK Try.prog ops Q K N ⟨some d, .move x, t, p, af, g⟩ :=
  okVal hK hg rfl fun e a w hk => ⟨_, rfl, hx a w (fun s hs => hk s (by simp [Op.operands, hs])) e⟩
theorem ok_assign (hK : K d = (c, y)) (hg : Gd ops K g c) (hx : Opd K c x y) : OpOK Try.prog ops Q K N ⟨some d, .assign x, t, p, af, g⟩ :=
  okVal hK hg rfl fun e a w hk => ⟨_, rfl, hx a w (fun s hs => hk s (by simp [Op.operands, hs])) e⟩
theorem ok_not {b : Bool} {u : TypeId} (hK : K d = (c, .bool (!b))) (hg : Gd ops K g c) (hx : Opd K c x (.bool b)) : OpOK Try.prog ops Q K N ⟨some d, .unOp .not u x, t, p, af, g⟩ :=
  okVal hK hg rfl fun e a w hk => by
    have h1 : a.eval x = .bool b := hx a w (fun s hs => hk s (by simp [Op.operands, hs])) e
    refine ⟨.bool (!b), ?_, rfl⟩
    simp only [execOp, h1]
    rfl
theorem ok_or {b b2 : Bool} (hK : K d = (c, .bool (b || b2))) (hg : Gd ops K g c) (hx : Opd K c x (.bool b)) (hx2 : Opd K (c && (b == false)) x2 (.bool b2)) : OpOK Try.prog ops Q K N ⟨some d, .pick x (.const (.bool true)) x2, t, p, af, g⟩ :=
  okVal hK hg rfl fun e a w hk => by
    have h1 : a.eval x = .bool b := hx a w (fun s hs => hk s (by simp [Op.operands, hs])) e
    refine ⟨.bool (b || b2), ?_, rfl⟩
    simp only [execOp, h1]
    cases b with
    | true => rfl
    | false =>
      have h2 : a.eval x2 = .bool b2 := hx2 a w (fun s hs => hk s (by simp [Op.operands, hs])) (by rw [e]; rfl)
      show Result.ok (Next.value (a.eval x2)) w = _
      rw [h2]; rfl
theorem ok_and {b b2 : Bool} (hK : K d = (c, .bool (b && b2))) (hg : Gd ops K g c) (hx : Opd K c x (.bool b)) (hx2 : Opd K (c && (b == true)) x2 (.bool b2)) : OpOK Try.prog ops Q K N ⟨some d, .pick x x2 (.const (.bool false)), t, p, af, g⟩ :=
  okVal hK hg rfl fun e a w hk => by
    have h1 : a.eval x = .bool b := hx a w (fun s hs => hk s (by simp [Op.operands, hs])) e
    refine ⟨.bool (b && b2), ?_, rfl⟩
    simp only [execOp, h1]
    cases b with
    | false => rfl
    | true =>
      have h2 : a.eval x2 = .bool b2 := hx2 a w (fun s hs => hk s (by simp [Op.operands, hs])) (by rw [e]; rfl)
      show Result.ok (Next.value (a.eval x2)) w = _
      rw [h2]; rfl
/-- A pure operation on two values that are known. -/
theorem ok_bin {op : BinOp} {u u' : TypeId} {v1 v2 r : Value} (hK : K d = (c, .val r)) (hg : Gd ops K g c) (hx : Opd K c x (.val v1)) (hx2 : Opd K c x2 (.val v2))
    (hr : ∀ w, ((do eqGuard op u x x2 v1 v2; binOp op u v1 v2 : Sem Value)).run Try.prog w = .ok r w) : OpOK Try.prog ops Q K N ⟨some d, .binOp op u x x2 u', t, p, af, g⟩ :=
  okVal hK hg rfl fun e a w hk => by
    have h1 : a.eval x = v1 := hx a w (fun s hs => hk s (by simp [Op.operands, hs])) e
    have h2 : a.eval x2 = v2 := hx2 a w (fun s hs => hk s (by simp [Op.operands, hs])) e
    refine ⟨r, ?_, rfl⟩
    have h3 := hr w
    simp only [execOp, h1, h2, Sem.run_bind] at h3 ⊢
    rw [h3]
    rfl
/-- A label is read. -/
theorem ok_load {u : TypeId} {ls : List Lab} {k : Nat} (hK : K d = (c, .lab l)) (hg : Gd ops K g c) (hx : Opd K c x (.var u ls k)) (hl : ls[k]? = some l) : OpOK Try.prog ops Q K N ⟨some d, .load 39 x, t, p, af, g⟩ :=
  okOf hK hg rfl fun e a w hk R hR => by
    obtain ⟨q, cs, h1, h2, h3⟩ := hx a w (fun s hs => hk s (by simp [Op.operands, hs])) e
    have h4 := (h3.drop k).take 1
    have h5 : (ls.drop k).take 1 = [l] := by
      obtain ⟨hk', rfl⟩ := List.getElem?_eq_some_iff.1 hl
      rw [List.drop_eq_getElem_cons hk']; rfl
    rw [h5] at h4
    have h6 : ((cs.toList.drop (2 * k)).take (2 * 1)).length = 2 := by rw [h4.length]; rfl
    refine wp_load_mid 39 x rfl q (2 * k) h1 ((cs.toList.drop (2 * k)).take (2 * 1)) _ (fun j v hv => ?_) Try.underlying39 rfl (by rw [h6]; kernel_rfl) (hR _ w (Below.refl _ _) ⟨_, rfl, h4⟩)
    rw [h2.cell]
    have hj : j < 2 := by
      rcases Nat.lt_or_ge j 2 with h | h
      · exact h
      · rw [List.getElem?_eq_none (by omega)] at hv; cases hv
    rw [List.getElem?_take, if_pos (by omega), List.getElem?_drop] at hv
    simpa using hv
/-- A seed is read. -/
theorem ok_loadS (hK : K d = (c, .seed l)) (hg : Gd ops K g c) (hx : Opd K c x (.sbox l)) : OpOK Try.prog ops Q K N ⟨some d, .load 36 x, t, p, af, g⟩ :=
  okOf hK hg rfl fun e a w hk R hR => by
    obtain ⟨q, o, c0, c1, h1, h2, h3, h4, h5⟩ := hx a w (fun s hs => hk s (by simp [Op.operands, hs])) e
    refine wp_load_mid 36 x rfl q o h1 [c0, c1] _ (fun j v hv => ?_) Try.underlying36 rfl (by kernel_rfl) (hR _ w (Below.refl _ _) h5)
    rcases j with _ | _ | j
    · simp at hv; subst hv; exact h3
    · simp at hv; subst hv; exact h4
    · simp at hv
/-- A call of a function, by its contract. -/
theorem ok_call1 (f : FuncId) {ty : TypeId} {y1 : Sym} (hK : K d = (c, y)) (hg : Gd ops K g c) (hx : Opd K c x y1)
    (hrun : ∀ (a : Act) (w : World), (execOp a.eval ⟨some d, .call { callee := .value (.func f), args := #[x], argTypes := #[ty] }, t, p, af, g⟩).run Try.prog w = .ok (.enter f #[a.eval x]) w)
    (hc : ∀ w v1, y1.on w v1 → Calls Try.prog f #[v1] w fun e w' => ∃ v, e = .returned v ∧ y.on w' v ∧ Below w.heap.size w w') :
    OpOK Try.prog ops Q K N ⟨some d, .call { callee := .value (.func f), args := #[x], argTypes := #[ty] }, t, p, af, g⟩ :=
  okOf hK hg rfl fun e a w hk R hR => by
    unfold Oper.wp
    rw [hrun, Oper.upon_enter]
    refine (hc w _ (hx a w (fun s hs => hk s (by simp [Op.operands, Call.operands, hs])) e)).mono ?_
    rintro _ w' ⟨v, rfl, h1, h2⟩
    exact hR v w' h2 h1
theorem ok_call0 (f : FuncId) (hK : K d = (c, y)) (hg : Gd ops K g c)
    (hrun : ∀ (a : Act) (w : World), (execOp a.eval ⟨some d, .call { callee := .value (.func f), args := #[], argTypes := #[] }, t, p, af, g⟩).run Try.prog w = .ok (.enter f #[]) w)
    (hc : ∀ w, Calls Try.prog f #[] w fun e w' => ∃ v, e = .returned v ∧ y.on w' v ∧ Below w.heap.size w w') :
    OpOK Try.prog ops Q K N ⟨some d, .call { callee := .value (.func f), args := #[], argTypes := #[] }, t, p, af, g⟩ :=
  okOf hK hg rfl fun e a w hk R hR => by
    unfold Oper.wp
    rw [hrun, Oper.upon_enter]
    refine (hc w).mono ?_
    rintro _ w' ⟨v, rfl, h1, h2⟩
    exact hR v w' h2 h1
theorem ok_call2 (f : FuncId) {ty ty2 : TypeId} {y1 y2 : Sym} (hK : K d = (c, y)) (hg : Gd ops K g c) (hx : Opd K c x y1) (hx2 : Opd K c x2 y2)
    (hrun : ∀ (a : Act) (w : World), (execOp a.eval ⟨some d, .call { callee := .value (.func f), args := #[x, x2], argTypes := #[ty, ty2] }, t, p, af, g⟩).run Try.prog w = .ok (.enter f #[a.eval x, a.eval x2]) w)
    (hc : ∀ w v1 v2, y1.on w v1 → y2.on w v2 → Calls Try.prog f #[v1, v2] w fun e w' => ∃ v, e = .returned v ∧ y.on w' v ∧ Below w.heap.size w w') :
    OpOK Try.prog ops Q K N ⟨some d, .call { callee := .value (.func f), args := #[x, x2], argTypes := #[ty, ty2] }, t, p, af, g⟩ :=
  okOf hK hg rfl fun e a w hk R hR => by
    unfold Oper.wp
    rw [hrun, Oper.upon_enter]
    refine (hc w _ _ (hx a w (fun s hs => hk s (by simp [Op.operands, Call.operands, hs])) e) (hx2 a w (fun s hs => hk s (by simp [Op.operands, Call.operands, hs])) e)).mono ?_
    rintro _ w' ⟨v, rfl, h1, h2⟩
    exact hR v w' h2 h1
theorem ok_call3 (f : FuncId) {ty ty2 ty3 : TypeId} {x3 : Operand} {y1 y2 y3 : Sym} (hK : K d = (c, y)) (hg : Gd ops K g c) (hx : Opd K c x y1) (hx2 : Opd K c x2 y2) (hx3 : Opd K c x3 y3)
    (hrun : ∀ (a : Act) (w : World), (execOp a.eval ⟨some d, .call { callee := .value (.func f), args := #[x, x2, x3], argTypes := #[ty, ty2, ty3] }, t, p, af, g⟩).run Try.prog w = .ok (.enter f #[a.eval x, a.eval x2, a.eval x3]) w)
    (hc : ∀ w v1 v2 v3, y1.on w v1 → y2.on w v2 → y3.on w v3 → Calls Try.prog f #[v1, v2, v3] w fun e w' => ∃ v, e = .returned v ∧ y.on w' v ∧ Below w.heap.size w w') :
    OpOK Try.prog ops Q K N ⟨some d, .call { callee := .value (.func f), args := #[x, x2, x3], argTypes := #[ty, ty2, ty3] }, t, p, af, g⟩ :=
  okOf hK hg rfl fun e a w hk R hR => by
    unfold Oper.wp
    rw [hrun, Oper.upon_enter]
    refine (hc w _ _ _ (hx a w (fun s hs => hk s (by simp [Op.operands, Call.operands, hs])) e) (hx2 a w (fun s hs => hk s (by simp [Op.operands, Call.operands, hs])) e) (hx3 a w (fun s hs => hk s (by simp [Op.operands, Call.operands, hs])) e)).mono ?_
    rintro _ w' ⟨v, rfl, h1, h2⟩
    exact hR v w' h2 h1
/-- A seed is laid into a variable of its own. -/
theorem ok_boxS (hK : K d = (c, .sbox l)) (hg : Gd ops K g c) (hx : Opd K c x (.seed l)) : OpOK Try.prog ops Q K N ⟨some d, .box 36 x, t, p, af, g⟩ :=
  okOf hK hg rfl fun e a w hk R hR => by
    have hv := hx a w (fun s hs => hk s (by simp [Op.operands, hs])) e
    obtain ⟨D, L, A, cl, h1, h2, h3, h4⟩ := hv
    have hb : Below w.heap.size w (w.alloc (.cells #[.int .i64 D, .slice A L.length cl] 36)) := (Below.refl _ _).alloc (Nat.le_refl _) _
    have hB := Blk.new w 36 #[.int .i64 D, .slice A L.length cl]
    have hR := hR (.pointer (some ⟨w.heap.size, 0, none⟩)) (w.alloc (.cells #[.int .i64 D, .slice A L.length cl] 36)) hb ⟨w.heap.size, 0, .int .i64 D, .slice A L.length cl, rfl, hB.lt, (hB.cell 0).trans rfl, (hB.cell 1).trans rfl, D, L, A, cl, h1, rfl, (h3.keep (fun p hp => hb.cell hp)).more hb.size, h4⟩
    unfold Oper.wp
    simp only [execOp, h2]
    go_simp
    exact hR
/-- A new variable for a label. -/
theorem ok_alloc (hK : K d = (true, .fresh 39 1)) : OpOK Try.prog ops Q K N ⟨some d, .alloc 39, t, p, af, none⟩ := fun a w _ _ R hR => by
  rw [if_pos (by simp [Region.wanted])]
  have hb : Below w.heap.size w (w.alloc (.cells #[.int .i64 0, .slice none 0 0] 39)) := (Below.refl _ _).alloc (Nat.le_refl _) _
  have hB := Blk.new w 39 #[.int .i64 0, .slice none 0 0]
  have hR := hR (.pointer (some ⟨w.heap.size, 0, none⟩)) (w.alloc (.cells #[.int .i64 0, .slice none 0 0] 39)) hb (fun d' hd => by
    cases hd
    rw [hK]
    refine ⟨fun _ => ⟨w.heap.size, _, rfl, hB, rfl, fun i u hu n => ?_⟩, (fun e => by cases e)⟩
    rcases i with _ | _ | i <;> simp at hu <;> subst hu <;> simp) (fun _ => ⟨rfl, by simp⟩)
  unfold Oper.wp
  go_simp
  exact hR
end
end

/-- Where a law's walk stands. -/
structure St (N : Nat) (K : Nat → Bool × Sym) (D : List Nat) (a : Act) (w : World) : Prop where
  size : a.tmps.size = N
  defers : a.defers = []
  known : ∀ s ∈ D, Known K a w s
theorem St.get {N : Nat} {K : Nat → Bool × Sym} {D : List Nat} {a : Act} {w : World} {y : Sym} (h : St N K D a w) (s : Nat) (hs : D.contains s = true) (hK : K s = (true, y)) : y.on w (a.tmps.getD s undef) := by
  have := (h.known s (by simpa using hs)).1
  rw [hK] at this
  exact this rfl
def AllEq (K' K : Nat → Bool × Sym) : List Nat → Prop
  | [] => True
  | s :: t => K' s = K s ∧ AllEq K' K t
theorem allEq_at {K' K : Nat → Bool × Sym} : ∀ {l : List Nat}, AllEq K' K l → ∀ s ∈ l, K' s = K s
  | _ :: _, h, s, hs => by
    rcases List.mem_cons.1 hs with rfl | hs
    · exact h.1
    · exact allEq_at h.2 s hs
theorem St.to {N : Nat} {K K' : Nat → Bool × Sym} {D D' : List Nat} {a : Act} {w : World} (h : St N K D a w) (hD : D'.all D.contains = true) (hE : AllEq K' K D') : St N K' D' a w :=
  ⟨h.size, h.defers, fun s hs => by
    have := h.known s (by simpa using List.all_eq_true.1 hD s hs)
    unfold Known at this ⊢
    rw [allEq_at hE s hs]
    exact this⟩
theorem St.mono {N : Nat} {K : Nat → Bool × Sym} {D : List Nat} {a : Act} {w w' : World} (h : St N K D a w) (hb : Below w.heap.size w w') : St N K D a w' := ⟨h.size, h.defers, fun s hs => (h.known s hs).mono hb⟩

theorem mem_dsts {l : List Oper} {s : Nat} (h : s ∈ dstsOf l) : ∃ (i : Nat) (o : Oper), l[i]? = some o ∧ o.dst = some s := by
  obtain ⟨o, ho, hs⟩ := List.mem_flatMap.1 h
  obtain ⟨i, hi, rfl⟩ := List.getElem_of_mem ho
  exact ⟨i, _, List.getElem?_eq_getElem hi, by simpa using hs⟩

/-- A region whose operations only add to memory. -/
theorem flow0 {id N : Nat} {l : List Oper} {b : Bool} {Q : Exit → Act → World → Prop} {K : Nat → Bool × Sym} {D : List Nat} {a : Act} {w : World} (h : St N K D a w) (hB : flowB l.toArray D l.length N = true)
    (hops : AllOK Try.prog l.toArray Q K N l) (hQ : ∀ a' w', Below w.heap.size w w' → St N K (D ++ dstsOf l) a' w' → Q .normal a' w') : (Code.region id l.toArray b).wp Try.prog Q a w := by
  refine wp_flow l.length D K N (by kernel_rfl) hB h.size h.defers h.known (by rw [List.take_length]; exact hops) fun a' w' F => ?_
  rw [List.drop_length]
  refine hQ a' w' F.below ⟨F.size, F.defers, fun s hs => ?_⟩
  rcases List.mem_append.1 hs with hs | hs
  · exact F.env s hs w' F.below
  · obtain ⟨i, o, hi, hd⟩ := mem_dsts hs
    obtain ⟨hl, _⟩ := List.getElem?_eq_some_iff.1 hi
    exact F.head i o s hl (by simpa using hi) hd

/- What a store puts where: the variable's slot, the value's, the type, the labels. -/
def StoresAre : List Oper → List (Nat × Nat × TypeId × List Lab) → Prop
  | [], [] => True
  | o :: os, (t, x, T, ls) :: ss => (o.op = .store T (.tmp t) (.tmp x) ∧ o.dst = none ∧ o.guard = none ∧ (Try.prog.info? T).map (·.size) = some (2 * ls.length)) ∧ StoresAre os ss
  | _, _ => False

theorem PairsAt.setRow {w : World} {B g : Nat} {A : Option Addr} {l : List (Int × Int)} {t : TypeId} {cs cs' : Array Value} (h : PairsAt w B A l) (k : Blk w g t cs) (hn : ∀ (i : Nat) (u : Value), cs[i]? = some u → ∀ x : Int, u ≠ Value.int .u32 x) : PairsAt (w.setRow g cs') B A l := fun hl => by
  obtain ⟨b, off, e, hb, hc⟩ := h hl
  have hne : b ≠ g := by
    rintro rfl
    have h0 := (hc 0 hl).1
    rw [k.cell] at h0
    exact hn _ _ h0 _ rfl
  have hcell : ∀ p : Addr, p.block = b → (w.setRow g cs').cell? p = w.cell? p := fun p hp => World.cell?_of_block (by rw [hp]; exact setRow_other w g b cs' hne)
  exact ⟨b, off, e, hb, fun j hj => ⟨(hcell _ rfl).trans (hc j hj).1, (hcell _ rfl).trans (hc j hj).2⟩⟩

theorem stores_run {ops : Array Oper} {Q : Exit → Act → World → Prop} {a : Act} {B : Nat} {w1 : World} : ∀ (os : List Oper) (ss dn : List (Nat × Nat × TypeId × List Lab)) (w : World), StoresAre os ss →
    (∀ e ∈ ss, B ≤ w.heap.size ∧ (∃ g cs, a.tmps.getD e.1 undef = .pointer (some ⟨g, 0, none⟩) ∧ B ≤ g ∧ Blk w g e.2.2.1 cs ∧ cs.size = 2 * e.2.2.2.length ∧ ∀ (i : Nat) (u : Value), cs[i]? = some u → ∀ x : Int, u ≠ Value.int .u32 x) ∧ LabsV w w.heap.size (a.tmps.getD e.2.1 undef) e.2.2.2) →
    ss.Pairwise (fun e e' => a.tmps.getD e.1 undef ≠ a.tmps.getD e'.1 undef) → Below B w1 w →
    (∀ e ∈ dn, (Sym.var e.2.2.1 e.2.2.2 0).on w (a.tmps.getD e.1 undef) ∧ ∀ e' ∈ ss, a.tmps.getD e'.1 undef ≠ a.tmps.getD e.1 undef) →
    (∀ w', Below B w1 w' → (∀ e ∈ dn ++ ss, (Sym.var e.2.2.1 e.2.2.2 0).on w' (a.tmps.getD e.1 undef)) → Q .normal a w') → wpList Try.prog ops Q os a w
  | [], [], dn, w, _, _, _, hb, hdn, hQ => hQ w hb (fun e he => (hdn e (by simpa using he)).1)
  | [], _ :: _, _, _, h, _, _, _, _, _ => h.elim
  | _ :: _, [], _, _, h, _, _, _, _, _ => h.elim
  | o :: os, (t, x, T, ls) :: ss, dn, w, ⟨⟨h1, h2, h3, h4⟩, hs⟩, hss, hpw, hb, hdn, hQ => by
    obtain ⟨hBw, ⟨g, cs, e1, e2, e3, e4, e5⟩, cells, e6, e7⟩ := hss (t, x, T, ls) (by simp)
    simp only at e1 e2 e3 e4 e6 e7
    have hlen := e7.length
    refine wpList_store_rowTo h3 T (.tmp t) (.tmp x) h1 h2 g cells.toArray e1 e6 T cs e3 (by rw [h4]; simp [hlen]) (by simp [e4, hlen]) (by simpa using e7.one) ?_
    have hk : ∀ A l, PairsAt w w.heap.size A l → PairsAt (w.setRow g cells.toArray) (w.setRow g cells.toArray).heap.size A l := fun A l p => by rw [size_setRow]; exact p.setRow e3 e5
    have hpw' := List.pairwise_cons.1 hpw
    refine stores_run os ss ((t, x, T, ls) :: dn) _ hs (fun e he => ?_) hpw'.2 (below_setRow hb e2 _) (fun e he => ?_) (fun w' hb' hall => hQ w' hb' (fun e he => hall e (by
      rcases List.mem_append.1 he with he | he
      · exact List.mem_append_left _ (List.mem_cons_of_mem _ he)
      · rcases List.mem_cons.1 he with rfl | he
        · simp
        · exact List.mem_append_right _ he)))
    · obtain ⟨_, ⟨g', cs', f1, f2, f3, f4, f5⟩, cl, f6, f7⟩ := hss e (List.mem_cons_of_mem _ he)
      have hne : g' ≠ g := by
        rintro rfl
        exact hpw'.1 e he (e1.trans f1.symm)
      exact ⟨by rw [size_setRow]; exact hBw, ⟨g', cs', f1, f2, (setRow_other w g g' _ hne).trans f3, f4, f5⟩, cl, f6, f7.keep hk⟩
    · rcases List.mem_cons.1 he with rfl | he
      · refine ⟨⟨g, cells.toArray, e1, setRow_heap w g cs _ T _ e3, ?_⟩, fun e' he' => (hpw'.1 e' he').symm⟩
        simpa using e7.keep hk
      · obtain ⟨⟨g', cs', f1, f2, f3⟩, f4⟩ := hdn e he
        have hne : g' ≠ g := by
          rintro rfl
          exact f4 (t, x, T, ls) (by simp) (e1.trans f1.symm)
        exact ⟨⟨g', cs', f1, (setRow_other w g g' _ hne).trans f2, f3.keep hk⟩, fun e' he' => f4 e' (List.mem_cons_of_mem _ he')⟩

def PutsOK (K K' : Nat → Bool × Sym) : List (Nat × Nat × TypeId × List Lab) → Prop
  | [] => True
  | (t, x, T, ls) :: ss => (K t = (true, .fresh T ls.length) ∧ K x = (true, .labs ls) ∧ K' t = (true, .var T ls 0)) ∧ PutsOK K K' ss
theorem putsOK_at {K K' : Nat → Bool × Sym} : ∀ {ss : List (Nat × Nat × TypeId × List Lab)}, PutsOK K K' ss → ∀ e ∈ ss, K e.1 = (true, .fresh e.2.2.1 e.2.2.2.length) ∧ K e.2.1 = (true, .labs e.2.2.2) ∧ K' e.1 = (true, .var e.2.2.1 e.2.2.2 0)
  | _ :: _, h, e, he => by
    rcases List.mem_cons.1 he with rfl | he
    · exact h.1
    · exact putsOK_at h.2 e he

/-- What the stores need of the head: each variable was made there, each value is known. -/
def putsB (l : List Oper) (D : List Nat) (n : Nat) (ss : List (Nat × Nat × TypeId × List Lab)) : Bool :=
  ss.all (fun e => (l.take n).any (fun o => isAlloc o && o.dst == some e.1) && (D ++ dstsOf (l.take n)).contains e.2.1) && decide ((ss.map (·.1)).Nodup)

/-- A region that makes variables and stores labels in them. -/
theorem flowS {id N : Nat} {l : List Oper} {b : Bool} {Q : Exit → Act → World → Prop} {K : Nat → Bool × Sym} {D : List Nat} {a : Act} {w : World} (K' : Nat → Bool × Sym) (n : Nat) (ss : List (Nat × Nat × TypeId × List Lab)) (h : St N K D a w) (hB : flowB l.toArray D n N = true)
    (hP : putsB l D n ss = true) (hS : StoresAre (l.drop n) ss) (hK : PutsOK K K' ss) (hE : AllEq K' K D)
    (hops : AllOK Try.prog l.toArray Q K N (l.take n)) (hQ : ∀ a' w', Below w.heap.size w w' → St N K' (D ++ ss.map (·.1)) a' w' → Q .normal a' w') : (Code.region id l.toArray b).wp Try.prog Q a w := by
  have fb := flowB_iff hB
  simp only [putsB, Bool.and_eq_true, List.all_eq_true, decide_eq_true_eq, List.any_eq_true, beq_iff_eq] at hP
  obtain ⟨hP, hnd⟩ := hP
  refine wp_flow n D K N (by kernel_rfl) hB h.size h.defers h.known hops fun a' w' F => ?_
  have hat : ∀ i o, (l.take n)[i]? = some o → i < n ∧ l.toArray[i]? = some o := fun i o hi => by
    obtain ⟨hl, _⟩ := List.getElem?_eq_some_iff.1 hi
    simp only [List.length_take] at hl
    rw [List.getElem?_take, if_pos (by omega)] at hi
    exact ⟨by omega, by simpa using hi⟩
  have hal : ∀ e ∈ ss, ∃ i o, i < n ∧ l.toArray[i]? = some o ∧ o.dst = some e.1 ∧ isAlloc o = true := fun e he => by
    obtain ⟨⟨o, ho, h1, h2⟩, _⟩ := hP e he
    obtain ⟨i, hi, rfl⟩ := List.getElem_of_mem ho
    obtain ⟨h3, h4⟩ := hat i _ (List.getElem?_eq_getElem hi)
    exact ⟨i, _, h3, h4, h2, h1⟩
  have hkn : ∀ s, s ∈ D ++ dstsOf (l.take n) → Known K a' w' s := fun s hs => by
    rcases List.mem_append.1 hs with hs | hs
    · exact F.env s hs w' F.below
    · obtain ⟨i, o, hi, hd⟩ := mem_dsts hs
      obtain ⟨h1, h2⟩ := hat i o hi
      exact F.head i o s h1 h2 hd
  refine stores_run (l.drop n) ss [] w' hS (fun e he => ⟨F.below.size, ?_, ?_⟩) ?_ F.below (fun e he => by cases he) (fun w'' hb'' hall => hQ a' w'' hb'' ⟨F.size, F.defers, fun s hs => ?_⟩)
  · obtain ⟨i, o, hi, ho, hd, hA⟩ := hal e he
    obtain ⟨g, h1, h2, _⟩ := F.fresh i o e.1 hi ho hd hA
    have h4 := (F.head i o e.1 hi ho hd).1
    rw [(putsOK_at hK e he).1] at h4
    obtain ⟨g', cs, h5, h6, h7, h8⟩ := h4 rfl
    rw [h1] at h5
    cases h5
    exact ⟨g, cs, h1, h2, h6, h7, h8⟩
  · have h4 := (hkn e.2.1 (by have := (hP e he).2; simpa using this)).1
    rw [(putsOK_at hK e he).2.1] at h4
    exact h4 rfl
  · have hnd' : ss.Pairwise (fun e e' => e.1 ≠ e'.1) := by
      have := hnd
      rw [List.Nodup, List.pairwise_map] at this
      exact this
    refine hnd'.imp_of_mem ?_
    intro e e' he he' hne
    obtain ⟨i, o, hi, ho, hd, hA⟩ := hal e he
    obtain ⟨j, o', hj, ho', hd', hA'⟩ := hal e' he'
    refine F.apart i o e.1 j o' e'.1 hi ho hd hA hj ho' hd' hA' ?_
    rintro rfl
    rw [ho] at ho'
    cases ho'
    rw [hd] at hd'
    exact hne (Option.some.inj hd')
  · rcases List.mem_append.1 hs with hs | hs
    · have h4 := F.env s hs w'' hb''
      unfold Known at h4 ⊢
      rw [allEq_at hE s hs]
      exact h4
    · obtain ⟨e, he, rfl⟩ := List.mem_map.1 hs
      unfold Known
      rw [(putsOK_at hK e he).2.2]
      exact ⟨fun _ => hall e (by simpa using he), (fun e => by cases e)⟩
end Go.Proofs.Ytihddficgpjgpaa
