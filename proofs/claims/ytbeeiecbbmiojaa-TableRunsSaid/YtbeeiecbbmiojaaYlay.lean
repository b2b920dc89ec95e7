/- What values stand for: numbers, rows, structs; how each kind of operation goes over to what its operands stand for. No program in sight. -/
import Derived.Test.YtbeeiecbbmiojaaYchain
import Derived.Deep.MidRow
import Derived.Great.BuildSlice
namespace Go.Proofs.Ytbeeiecbbmiojaa.Y
open Go.RowKit

/-- How things of a type lie in cells. -/
structure Lay (α : Type) where
  n : Nat
  on : World → (Cell → Prop) → List Value → α → Prop
  len : ∀ {w : World} {F : Cell → Prop} {cs : List Value} {x : α}, on w F cs x → cs.length = n
  one : ∀ {w : World} {F : Cell → Prop} {cs : List Value} {x : α}, on w F cs x → ∀ u ∈ cs, u.oneCell' = true
  mono : ∀ {w w' : World} {F F' : Cell → Prop} {cs : List Value} {x : α}, on w F cs x → Keeps F w w' → (∀ k : Cell, k.1 < w.heap.size → F' k → F k) → on w' F' cs x
def Lay.int (k : IntKind) : Lay Int := ⟨1, fun _ _ cs x => cs = [.int k x], by rintro _ _ _ _ rfl; rfl, (by rintro _ _ _ _ rfl u hu; simp at hu; subst hu; rfl), fun h _ _ => h⟩
def Lay.bool : Lay Bool := ⟨1, fun _ _ cs x => cs = [.bool x], by rintro _ _ _ _ rfl; rfl, (by rintro _ _ _ _ rfl u hu; simp at hu; subst hu; rfl), fun h _ _ => h⟩
def Lay.none : Lay Unit := ⟨0, fun _ _ cs _ => cs = [], by rintro _ _ _ _ rfl; rfl, (by rintro _ _ _ _ rfl u hu; cases hu), fun h _ _ => h⟩
/-- Cells that hold whatever takes one cell each. -/
def Lay.raw (n : Nat) : Lay Unit := ⟨n, fun _ _ cs _ => cs.length = n ∧ ∀ u ∈ cs, u.oneCell' = true, fun h => h.1, fun h => h.2, fun h _ _ => h⟩
def Lay.pr {α β : Type} (A : Lay α) (B : Lay β) : Lay (α × β) :=
  ⟨A.n + B.n, fun w F cs x => ∃ c1 c2, cs = c1 ++ c2 ∧ A.on w F c1 x.1 ∧ B.on w F c2 x.2,
   by rintro _ _ _ _ ⟨c1, c2, rfl, h1, h2⟩; rw [List.length_append, A.len h1, B.len h2],
   (by
    rintro _ _ _ _ ⟨c1, c2, rfl, h1, h2⟩ u hu
    rcases List.mem_append.1 hu with hu | hu
    · exact A.one h1 u hu
    · exact B.one h2 u hu),
   by rintro _ _ _ _ _ _ ⟨c1, c2, e, h1, h2⟩ hk hF; exact ⟨c1, c2, e, A.mono h1 hk hF, B.mono h2 hk hF⟩⟩
def Lay.via {α β : Type} (A : Lay α) (f : β → α) : Lay β := ⟨A.n, fun w F cs x => A.on w F cs (f x), A.len, A.one, A.mono⟩
/-- A cell holds a value, and is not written. -/
def Holds (w : World) (F : Cell → Prop) (b o : Nat) (v : Value) : Prop := ¬ F (b, o) ∧ w.cell? ⟨b, o, none⟩ = some v
theorem Holds.mono {w w' : World} {F F' : Cell → Prop} {b o : Nat} {v : Value} (h : Holds w F b o v) (hb : b < w.heap.size) (hk : Keeps F w w') (hF : ∀ k : Cell, k.1 < w.heap.size → F' k → F k) : Holds w' F' b o v := ⟨fun hf => h.1 (hF (b, o) hb hf), (hk.cell hb h.1).trans h.2⟩
/-- A row of things. -/
def SlAt {α : Type} (L : Lay α) (w : World) (F : Cell → Prop) (A : Option Addr) (l : List α) : Prop :=
  0 < l.length → ∃ b off, A = some ⟨b, off, none⟩ ∧ b < w.heap.size ∧ ∀ i (h : i < l.length), ∃ cs, L.on w F cs l[i] ∧ ∀ j (hj : j < cs.length), Holds w F b (off + i * L.n + j) cs[j]
theorem SlAt.mono {α : Type} {L : Lay α} {w w' : World} {F F' : Cell → Prop} {A : Option Addr} {l : List α} (h : SlAt L w F A l) (hk : Keeps F w w') (hF : ∀ k : Cell, k.1 < w.heap.size → F' k → F k) : SlAt L w' F' A l := fun hl => by
  obtain ⟨b, off, e, hb, hc⟩ := h hl
  refine ⟨b, off, e, Nat.lt_of_lt_of_le hb hk.size, fun i hi => ?_⟩
  obtain ⟨cs, h1, h2⟩ := hc i hi
  exact ⟨cs, L.mono h1 hk hF, fun j hj => (h2 j hj).mono hb hk hF⟩
def Lay.sl {α : Type} (L : Lay α) : Lay (List α) :=
  ⟨1, fun w F cs l => ∃ A c, cs = [.slice A l.length c] ∧ SlAt L w F A l ∧ l.length ≤ c, by rintro _ _ _ _ ⟨A, c, rfl, _⟩; rfl, (by rintro _ _ _ _ ⟨A, c, rfl, _⟩ u hu; simp at hu; subst hu; rfl),
   by rintro _ _ _ _ _ _ ⟨A, c, e, h1, h2⟩ hk hF; exact ⟨A, c, e, h1.mono hk hF, h2⟩⟩
/-- So many things, one behind the other. -/
def RowOn {α : Type} (L : Lay α) (w : World) (F : Cell → Prop) : List Value → List α → Prop
  | cs, [] => cs = []
  | cs, x :: t => ∃ c1 c2, cs = c1 ++ c2 ∧ L.on w F c1 x ∧ RowOn L w F c2 t
theorem RowOn.len {α : Type} {L : Lay α} {w : World} {F : Cell → Prop} : ∀ {l : List α} {cs : List Value}, RowOn L w F cs l → cs.length = l.length * L.n
  | [], _, h => by simp [RowOn] at h; simp [h]
  | x :: t, _, ⟨c1, c2, h0, h1, h2⟩ => by rw [h0, List.length_append, L.len h1, h2.len, List.length_cons, Nat.succ_mul]; omega
theorem RowOn.one {α : Type} {L : Lay α} {w : World} {F : Cell → Prop} : ∀ {l : List α} {cs : List Value}, RowOn L w F cs l → ∀ u ∈ cs, u.oneCell' = true
  | [], _, h, u, hu => by simp [RowOn] at h; subst h; cases hu
  | x :: t, _, ⟨c1, c2, h0, h1, h2⟩, u, hu => by
    subst h0
    rcases List.mem_append.1 hu with hu | hu
    · exact L.one h1 u hu
    · exact h2.one u hu
theorem RowOn.mono {α : Type} {L : Lay α} {w w' : World} {F F' : Cell → Prop} (hk : Keeps F w w') (hF : ∀ k : Cell, k.1 < w.heap.size → F' k → F k) : ∀ {l : List α} {cs : List Value}, RowOn L w F cs l → RowOn L w' F' cs l
  | [], _, h => h
  | _ :: _, _, ⟨c1, c2, h0, h1, h2⟩ => ⟨c1, c2, h0, L.mono h1 hk hF, h2.mono hk hF⟩
theorem RowOn.at {α : Type} {L : Lay α} {w : World} {F : Cell → Prop} : ∀ {l : List α} {cs : List Value} (i : Nat) (h : i < l.length), RowOn L w F cs l → ∃ c1 c2 c3, cs = c1 ++ (c2 ++ c3) ∧ c1.length = i * L.n ∧ L.on w F c2 l[i]
  | x :: t, _, 0, _, ⟨c1, c2, h0, h1, h2⟩ => ⟨[], c1, c2, h0, by simp, h1⟩
  | x :: t, _, i + 1, h, ⟨c1, c2, h0, h1, h2⟩ => by
    obtain ⟨d1, d2, d3, e1, e2, e3⟩ := h2.at i (by simpa using h)
    exact ⟨c1 ++ d1, d2, d3, by rw [h0, e1, List.append_assoc], by rw [List.length_append, L.len h1, e2, Nat.succ_mul]; omega, by simpa using e3⟩
def Lay.arr {α : Type} (L : Lay α) (k : Nat) : Lay (List α) :=
  ⟨k * L.n, fun w F cs l => l.length = k ∧ RowOn L w F cs l, by rintro _ _ _ _ ⟨rfl, h⟩; exact h.len, fun h => h.2.one, fun h hk hF => ⟨h.1, h.2.mono hk hF⟩⟩

/-- A field: L' lies in L from cell off on, as f tells. -/
def Part {α β : Type} (L : Lay α) (L' : Lay β) (off : Nat) (f : α → β) : Prop := ∀ {w : World} {F : Cell → Prop} {cs : List Value} {x : α}, L.on w F cs x → ∃ c1 c2 c3, cs = c1 ++ (c2 ++ c3) ∧ c1.length = off ∧ L'.on w F c2 (f x)
theorem Part.self {α : Type} (L : Lay α) : Part L L 0 (fun x => x) := fun {_ _ cs _} h => ⟨[], cs, [], by simp, rfl, h⟩
theorem Part.fst {α β γ : Type} {A : Lay α} {B : Lay β} {L : Lay γ} {off : Nat} {f : α → γ} (h : Part A L off f) : Part (A.pr B) L off (fun x => f x.1) := by
  rintro w F cs x ⟨c1, c2, rfl, h1, h2⟩
  obtain ⟨d1, d2, d3, rfl, e2, e3⟩ := h h1
  exact ⟨d1, d2, d3 ++ c2, by simp, e2, e3⟩
theorem Part.snd {α β γ : Type} {A : Lay α} {B : Lay β} {L : Lay γ} {off : Nat} {f : β → γ} (h : Part B L off f) : Part (A.pr B) L (A.n + off) (fun x => f x.2) := by
  rintro w F cs x ⟨c1, c2, rfl, h1, h2⟩
  obtain ⟨d1, d2, d3, rfl, e2, e3⟩ := h h2
  exact ⟨c1 ++ d1, d2, d3, by simp, by rw [List.length_append, A.len h1, e2], e3⟩
theorem Part.via {α β γ : Type} {A : Lay α} {L : Lay γ} {off : Nat} {f : α → γ} {g : β → α} (h : Part A L off f) : Part (A.via g) L off (fun x => f (g x)) := fun hx => h hx
theorem Part.cast {α γ : Type} {A : Lay α} {L : Lay γ} {off off' : Nat} {f f' : α → γ} (h : Part A L off f) (ho : off = off') (hf : ∀ x, f x = f' x) : Part A L off' f' := by
  subst ho
  intro w F cs x hx
  obtain ⟨c1, c2, c3, h1, h2, h3⟩ := h hx
  exact ⟨c1, c2, c3, h1, h2, hf x ▸ h3⟩

/-- A value of one cell; a struct's or an array's value; the place of one. -/
def Sym.one {α : Type} (L : Lay α) (x : α) : Sym := ⟨fun w F v => L.on w F [v] x, fun h hk hF => L.mono h hk hF⟩
def Sym.st {α : Type} (L : Lay α) (x : α) : Sym := ⟨fun w F v => ∃ cs, v = .agg cs.toArray ∧ L.on w F cs x, by rintro _ _ _ _ _ ⟨cs, e, h⟩ hk hF; exact ⟨cs, e, L.mono h hk hF⟩⟩
def Sym.at {α : Type} (L : Lay α) (x : α) : Sym := ⟨fun w F v => ∃ b off cs, v = .pointer (some ⟨b, off, none⟩) ∧ b < w.heap.size ∧ L.on w F cs x ∧ ∀ j (hj : j < cs.length), Holds w F b (off + j) cs[j], by
  rintro w w' F F' v ⟨b, off, cs, e, h1, h3, h4⟩ hk hF
  exact ⟨b, off, cs, e, Nat.lt_of_lt_of_le h1 hk.size, L.mono h3 hk hF, fun j hj => (h4 j hj).mono h1 hk hF⟩⟩
/-- A known number, and more on it. -/
theorem Sym.one_int {k : IntKind} {x : Int} {w : World} {F : Cell → Prop} {v : Value} : (Sym.one (Lay.int k) x).on w F v ↔ v = .int k x := by simp [Sym.one, Lay.int]
theorem Sym.one_bool {x : Bool} {w : World} {F : Cell → Prop} {v : Value} : (Sym.one Lay.bool x).on w F v ↔ v = .bool x := by simp [Sym.one, Lay.bool]

section
variable {U : Prop} {P : Program} {ops : Array Oper} {Q : Exit → Act → World → Prop} {N : Nat} {e : Env}
theorem pOf {d : Nat} {op : Op} {t : TypeId} {p : String} {af : Array Edge} {g : Option (Nat × Bool)} {c : Bool} {y : Sym} (hg : GdE ops e g c)
    (h : c = true → ∀ a w F, FOK U F w → (∀ s ∈ op.operands.toList.flatMap slotsOf, SlotOK e F a w s) → ∀ R : Act → World → Prop, (∀ v w', Below w.heap.size w w' → y.on w' F v → R (a.put (some d) v) w') → (⟨some d, op, t, p, af, g⟩ : Oper).wp P a w R Q) :
    Pays U P ops Q N e ⟨some d, op, t, p, af, g⟩ (c, y) := fun a w F _ hF hk R hR => by
  have hk1 := fun s hs => hk s (List.mem_append_left _ hs)
  have hk2 := fun s hs => hk s (List.mem_append_right _ hs)
  rw [hg a w F _ rfl hk1]
  cases c with
  | true =>
    rw [if_pos rfl]
    exact h rfl a w F hF hk2 R fun v w' hb hv => hR v w' hb ⟨fun _ => hv, (fun e => by cases e)⟩
  | false =>
    rw [if_neg (by simp)]
    exact hR undef w (Below.refl _ _) ⟨(fun e => by cases e), fun _ => rfl⟩
theorem pVal {d : Nat} {op : Op} {t : TypeId} {p : String} {af : Array Edge} {g : Option (Nat × Bool)} {c : Bool} {y : Sym} (hg : GdE ops e g c)
    (h : c = true → ∀ a w F, (∀ s ∈ op.operands.toList.flatMap slotsOf, SlotOK e F a w s) → ∃ v, (execOp a.eval ⟨some d, op, t, p, af, g⟩).run P w = .ok (.value v) w ∧ y.on w F v) :
    Pays U P ops Q N e ⟨some d, op, t, p, af, g⟩ (c, y) :=
  pOf hg fun e a w F _ hk R hR => by
    obtain ⟨v, h1, h2⟩ := h e a w F hk
    unfold Oper.wp
    rw [h1]
    exact hR v w (Below.refl _ _) h2

section
variable {d : Nat} {t : TypeId} {p : String} {af : Array Edge} {g : Option (Nat × Bool)} {c : Bool} {y : Sym} {x x2 x3 x4 x5 : Operand}
theorem p_move (hg : GdE ops e g c) (hx : OpdE e c x y) : Pays U P ops Q N e ⟨some d, .move x, t, p, af, g⟩ (c, y) :=
  pVal hg fun e a w F hk => ⟨_, rfl, hx a w F (fun s hs => hk s (by simp [Op.operands, hs])) e⟩
theorem p_assign (hg : GdE ops e g c) (hx : OpdE e c x y) : Pays U P ops Q N e ⟨some d, .assign x, t, p, af, g⟩ (c, y) :=
  pVal hg fun e a w F hk => ⟨_, rfl, hx a w F (fun s hs => hk s (by simp [Op.operands, hs])) e⟩
theorem p_not {b : Bool} {u : TypeId} (hg : GdE ops e g c) (hx : OpdE e c x (.bool b)) : Pays U P ops Q N e ⟨some d, .unOp .not u x, t, p, af, g⟩ (c, .bool (!b)) :=
  pVal hg fun e a w F hk => by
    have h1 : a.eval x = .bool b := hx a w F (fun s hs => hk s (by simp [Op.operands, hs])) e
    refine ⟨.bool (!b), ?_, rfl⟩
    simp only [execOp, h1]
    rfl
theorem p_or {b b2 : Bool} (hg : GdE ops e g c) (hx : OpdE e c x (.bool b)) (hx2 : OpdE e (c && (b == false)) x2 (.bool b2)) : Pays U P ops Q N e ⟨some d, .pick x (.const (.bool true)) x2, t, p, af, g⟩ (c, .bool (b || b2)) :=
  pVal hg fun e a w F hk => by
    have h1 : a.eval x = .bool b := hx a w F (fun s hs => hk s (by simp [Op.operands, hs])) e
    refine ⟨.bool (b || b2), ?_, rfl⟩
    simp only [execOp, h1]
    cases b with
    | true => rfl
    | false =>
      have h2 : a.eval x2 = .bool b2 := hx2 a w F (fun s hs => hk s (by simp [Op.operands, hs])) (by rw [e]; rfl)
      show Result.ok (Next.value (a.eval x2)) w = _
      rw [h2]; rfl
theorem p_and {b b2 : Bool} (hg : GdE ops e g c) (hx : OpdE e c x (.bool b)) (hx2 : OpdE e (c && (b == true)) x2 (.bool b2)) : Pays U P ops Q N e ⟨some d, .pick x x2 (.const (.bool false)), t, p, af, g⟩ (c, .bool (b && b2)) :=
  pVal hg fun e a w F hk => by
    have h1 : a.eval x = .bool b := hx a w F (fun s hs => hk s (by simp [Op.operands, hs])) e
    refine ⟨.bool (b && b2), ?_, rfl⟩
    simp only [execOp, h1]
    cases b with
    | false => rfl
    | true =>
      have h2 : a.eval x2 = .bool b2 := hx2 a w F (fun s hs => hk s (by simp [Op.operands, hs])) (by rw [e]; rfl)
      show Result.ok (Next.value (a.eval x2)) w = _
      rw [h2]; rfl

/-- How an operation runs, by its operands' values. -/
def Run1 (P : Program) (o : Oper) (x : Operand) (v r : Value) : Prop := ∀ (ev : Operand → Value) (w : World), ev x = v → (execOp ev o).run P w = .ok (.value r) w
def Run2 (P : Program) (o : Oper) (x x2 : Operand) (v v2 r : Value) : Prop := ∀ (ev : Operand → Value) (w : World), ev x = v → ev x2 = v2 → (execOp ev o).run P w = .ok (.value r) w
theorem p_unop {u : TypeId} {o : UnOp} {v r : Value} (hg : GdE ops e g c) (hx : OpdE e c x (.val v)) (hr : Run1 P ⟨some d, .unOp o u x, t, p, af, g⟩ x v r) : Pays U P ops Q N e ⟨some d, .unOp o u x, t, p, af, g⟩ (c, .val r) :=
  pVal hg fun e a w F hk => ⟨r, hr _ w (hx a w F (fun s hs => hk s (by simp [Op.operands, hs])) e), rfl⟩
theorem p_conv {u u' : TypeId} {v r : Value} (hg : GdE ops e g c) (hx : OpdE e c x (.val v)) (hr : Run1 P ⟨some d, .convert u u' x, t, p, af, g⟩ x v r) : Pays U P ops Q N e ⟨some d, .convert u u' x, t, p, af, g⟩ (c, .val r) :=
  pVal hg fun e a w F hk => ⟨r, hr _ w (hx a w F (fun s hs => hk s (by simp [Op.operands, hs])) e), rfl⟩
theorem p_bin {u u' : TypeId} {o : BinOp} {v1 v2 r : Value} (hg : GdE ops e g c) (hx : OpdE e c x (.val v1)) (hx2 : OpdE e c x2 (.val v2)) (hr : Run2 P ⟨some d, .binOp o u x x2 u', t, p, af, g⟩ x x2 v1 v2 r) : Pays U P ops Q N e ⟨some d, .binOp o u x x2 u', t, p, af, g⟩ (c, .val r) :=
  pVal hg fun e a w F hk => ⟨r, hr _ w (hx a w F (fun s hs => hk s (by simp [Op.operands, hs])) e) (hx2 a w F (fun s hs => hk s (by simp [Op.operands, hs])) e), rfl⟩
/-- A builtin on two numbers (min, max). -/
theorem p_min {b : Builtin} {A : Array TypeId} {v1 v2 r : Value} (hg : GdE ops e g c) (hx : OpdE e c x (.val v1)) (hx2 : OpdE e c x2 (.val v2)) (hr : Run2 P ⟨some d, .call { callee := .builtin b, args := #[x, x2], argTypes := A }, t, p, af, g⟩ x x2 v1 v2 r) : Pays U P ops Q N e ⟨some d, .call { callee := .builtin b, args := #[x, x2], argTypes := A }, t, p, af, g⟩ (c, .val r) :=
  pVal hg fun e a w F hk => ⟨r, hr _ w (hx a w F (fun s hs => hk s (by simp [Op.operands, Call.operands, hs])) e) (hx2 a w F (fun s hs => hk s (by simp [Op.operands, Call.operands, hs])) e), rfl⟩

/-- A struct or an array is read. -/
theorem p_load {α : Type} {L : Lay α} {z : α} {u : TypeId} {ty : TypeDesc} (hu : P.underlying u = some ty) (hd : ty.isRow = true) (hn : (P.info? u).map (·.size) = some L.n) (hg : GdE ops e g c) (hx : OpdE e c x (.at L z)) : Pays U P ops Q N e ⟨some d, .load u x, t, p, af, g⟩ (c, .st L z) :=
  pOf hg fun e a w F _ hk R hR => by
    obtain ⟨b, off, cs, h1, h2, h4, h5⟩ := hx a w F (fun s hs => hk s (by simp [Op.operands, hs])) e
    refine wp_load_mid u x rfl b off h1 cs ty (fun j v hv => ?_) hu hd (by rw [L.len h4]; exact hn) (hR _ w (Below.refl _ _) ⟨cs, rfl, h4⟩)
    obtain ⟨hj, rfl⟩ := List.getElem?_eq_some_iff.1 hv
    exact (h5 j hj).2
/-- What takes one cell is read. -/
def LoadRun (P : Program) (o : Oper) (x : Operand) : Prop := ∀ (ev : Operand → Value) (w : World) (b off : Nat) (v : Value), ev x = .pointer (some ⟨b, off, none⟩) → w.cell? ⟨b, off, none⟩ = some v → (execOp ev o).run P w = .ok (.value v) w
theorem p_load1 {α : Type} {L : Lay α} {z : α} {u : TypeId} (h1 : L.n = 1) (hr : LoadRun P ⟨some d, .load u x, t, p, af, g⟩ x) (hg : GdE ops e g c) (hx : OpdE e c x (.at L z)) : Pays U P ops Q N e ⟨some d, .load u x, t, p, af, g⟩ (c, .one L z) :=
  pVal hg fun e a w F hk => by
    obtain ⟨b, off, cs, e1, h2, h4, h5⟩ := hx a w F (fun s hs => hk s (by simp [Op.operands, hs])) e
    have hl := L.len h4
    rw [h1] at hl
    match cs, hl with
    | [v], _ => exact ⟨v, hr _ w b off v e1 (h5 0 (by simp)).2, h4⟩
theorem p_loadI {k : IntKind} {z : Int} {u : TypeId} (hr : LoadRun P ⟨some d, .load u x, t, p, af, g⟩ x) (hg : GdE ops e g c) (hx : OpdE e c x (.at (Lay.int k) z)) : Pays U P ops Q N e ⟨some d, .load u x, t, p, af, g⟩ (c, .int k z) :=
  pVal hg fun e a w F hk => by
    obtain ⟨b, off, cs, e1, h2, rfl, h5⟩ := hx a w F (fun s hs => hk s (by simp [Op.operands, hs])) e
    exact ⟨_, hr _ w b off _ e1 (h5 0 (by simp)).2, rfl⟩
theorem p_loadB {z : Bool} {u : TypeId} (hr : LoadRun P ⟨some d, .load u x, t, p, af, g⟩ x) (hg : GdE ops e g c) (hx : OpdE e c x (.at Lay.bool z)) : Pays U P ops Q N e ⟨some d, .load u x, t, p, af, g⟩ (c, .bool z) :=
  pVal hg fun e a w F hk => by
    obtain ⟨b, off, cs, e1, h2, rfl, h5⟩ := hx a w F (fun s hs => hk s (by simp [Op.operands, hs])) e
    exact ⟨_, hr _ w b off _ e1 (h5 0 (by simp)).2, rfl⟩
/-- The place of a field. -/
def FieldRun (P : Program) (o : Oper) (x : Operand) (n : Nat) : Prop := ∀ (ev : Operand → Value) (w : World) (b off : Nat), ev x = .pointer (some ⟨b, off, none⟩) → (execOp ev o).run P w = .ok (.value (.pointer (some ⟨b, off + n, none⟩))) w
theorem p_fieldAddr {α β : Type} {L : Lay α} {L' : Lay β} {n : Nat} {f : α → β} {z : α} {u : TypeId} {i : Nat} (hP : Part L L' n f) (hr : FieldRun P ⟨some d, .fieldAddr u x i, t, p, af, g⟩ x n) (hg : GdE ops e g c) (hx : OpdE e c x (.at L z)) : Pays U P ops Q N e ⟨some d, .fieldAddr u x i, t, p, af, g⟩ (c, .at L' (f z)) :=
  pVal hg fun e a w F hk => by
    obtain ⟨b, off, cs, e1, h2, h4, h5⟩ := hx a w F (fun s hs => hk s (by simp [Op.operands, hs])) e
    obtain ⟨c1, c2, c3, rfl, hl, h6⟩ := hP h4
    refine ⟨_, hr _ w b off e1, b, off + n, c2, rfl, h2, h6, fun j hj => ?_⟩
    have := h5 (n + j) (by simp; omega)
    rw [← Nat.add_assoc] at this
    refine ⟨this.1, ?_⟩
    rw [this.2, List.getElem_append_right (by omega), List.getElem_append_left (by omega)]
    simp [hl]
/-- The place of an array's element, at a known place. -/
def ArrRun (P : Program) (o : Oper) (x : Operand) (n : Nat) : Prop := ∀ (ev : Operand → Value) (w : World) (b off : Nat), (∀ v, ev (.const v) = v) → ev x = .pointer (some ⟨b, off, none⟩) → (execOp ev o).run P w = .ok (.value (.pointer (some ⟨b, off + n, none⟩))) w
theorem p_indexArr {α : Type} {L : Lay α} {k i : Nat} {l : List α} {z : α} {u : TypeId} (hr : ArrRun P ⟨some d, .indexAddr u x (.const (.int .i64 i)), t, p, af, g⟩ x (i * L.n)) (hz : l[i]? = some z) (hg : GdE ops e g c) (hx : OpdE e c x (.at (Lay.arr L k) l)) : Pays U P ops Q N e ⟨some d, .indexAddr u x (.const (.int .i64 i)), t, p, af, g⟩ (c, .at L z) :=
  pVal hg fun e a w F hk => by
    obtain ⟨b, off, cs, e1, h2, ⟨h4, h6⟩, h5⟩ := hx a w F (fun s hs => hk s (by simp [Op.operands, hs])) e
    obtain ⟨hi, rfl⟩ := List.getElem?_eq_some_iff.1 hz
    obtain ⟨c1, c2, c3, rfl, hl, h7⟩ := h6.at i hi
    refine ⟨_, hr _ w b off (fun _ => rfl) e1, b, off + i * L.n, c2, rfl, h2, h7, fun j hj => ?_⟩
    have := h5 (i * L.n + j) (by simp; omega)
    rw [← Nat.add_assoc] at this
    refine ⟨this.1, ?_⟩
    rw [this.2, List.getElem_append_right (by omega), List.getElem_append_left (by omega)]
    simp [hl]
/-- The place of a slice's element. -/
def IndexRun (P : Program) (o : Oper) (x x2 : Operand) (n : Nat) : Prop := ∀ (ev : Operand → Value) (w : World) (b off len cap i : Nat), ev x = .slice (some ⟨b, off, none⟩) len cap → ev x2 = .int .i64 i → i < len → (execOp ev o).run P w = .ok (.value (.pointer (some ⟨b, off + i * n, none⟩))) w
theorem p_index {α : Type} {L : Lay α} {i : Nat} {l : List α} {z : α} {u : TypeId} (hr : IndexRun P ⟨some d, .indexAddr u x x2, t, p, af, g⟩ x x2 L.n) (hz : l[i]? = some z) (hg : GdE ops e g c) (hx : OpdE e c x (.one (Lay.sl L) l)) (hx2 : OpdE e c x2 (.int .i64 i)) : Pays U P ops Q N e ⟨some d, .indexAddr u x x2, t, p, af, g⟩ (c, .at L z) :=
  pVal hg fun e a w F hk => by
    obtain ⟨A, cp, e1, h2, h3⟩ := hx a w F (fun s hs => hk s (by simp [Op.operands, hs])) e
    have e2 := hx2 a w F (fun s hs => hk s (by simp [Op.operands, hs])) e
    obtain ⟨hi, rfl⟩ := List.getElem?_eq_some_iff.1 hz
    obtain ⟨b, off, rfl, h4, h6⟩ := h2 (by omega)
    obtain ⟨cs, h7, h8⟩ := h6 i hi
    simp only [List.cons.injEq, and_true] at e1
    exact ⟨_, hr _ w b off _ _ i e1 e2 hi, b, off + i * L.n, cs, rfl, h4, h7, h8⟩
/-- The same, where the place is a number that is in range where the operation runs. -/
theorem p_indexI {α : Type} {L : Lay α} {k : Int} {l : List α} {z : α} {u : TypeId} (hr : IndexRun P ⟨some d, .indexAddr u x x2, t, p, af, g⟩ x x2 L.n) (hz : c = true → 0 ≤ k ∧ l[k.toNat]? = some z) (hg : GdE ops e g c) (hx : OpdE e c x (.one (Lay.sl L) l)) (hx2 : OpdE e c x2 (.int .i64 k)) : Pays U P ops Q N e ⟨some d, .indexAddr u x x2, t, p, af, g⟩ (c, .at L z) :=
  pVal hg fun e a w F hk => by
    obtain ⟨A, cp, e1, h2, h3⟩ := hx a w F (fun s hs => hk s (by simp [Op.operands, hs])) e
    have e2 := hx2 a w F (fun s hs => hk s (by simp [Op.operands, hs])) e
    obtain ⟨hk0, hz⟩ := hz e
    obtain ⟨hi, rfl⟩ := List.getElem?_eq_some_iff.1 hz
    obtain ⟨b, off, rfl, h4, h6⟩ := h2 (by omega)
    obtain ⟨cs, h7, h8⟩ := h6 k.toNat hi
    simp only [List.cons.injEq, and_true] at e1
    have e3 : a.eval x2 = .int .i64 ((k.toNat : Nat) : Int) := by rw [e2]; congr; omega
    exact ⟨_, hr _ w b off _ _ k.toNat e1 e3 hi, b, off + k.toNat * L.n, cs, rfl, h4, h7, h8⟩
def LenRun (P : Program) (o : Oper) (x : Operand) : Prop := ∀ (ev : Operand → Value) (w : World) (A : Option Addr) (len cap : Nat), ev x = .slice A len cap → (execOp ev o).run P w = .ok (.value (.int .i64 len)) w
theorem p_len {α : Type} {L : Lay α} {l : List α} {T : TypeId} (hr : LenRun P ⟨some d, .call { callee := .builtin .len, args := #[x], argTypes := #[T] }, t, p, af, g⟩ x) (hg : GdE ops e g c) (hx : OpdE e c x (.one (Lay.sl L) l)) : Pays U P ops Q N e ⟨some d, .call { callee := .builtin .len, args := #[x], argTypes := #[T] }, t, p, af, g⟩ (c, .int .i64 l.length) :=
  pVal hg fun e a w F hk => by
    obtain ⟨A, cp, e1, h2, h3⟩ := hx a w F (fun s hs => hk s (by simp [Op.operands, Call.operands, hs])) e
    simp only [List.cons.injEq, and_true] at e1
    exact ⟨_, hr _ w A _ _ e1, rfl⟩
/-- A variable that holds a value, and is not written. -/
def BoxRun (P : Program) (o : Oper) (x : Operand) (u : TypeId) : Prop := ∀ (ev : Operand → Value) (w : World) (cs : Array Value), ev x = .agg cs → (execOp ev o).run P w = .ok (.value (.pointer (some ⟨w.heap.size, 0, none⟩))) (w.alloc (.cells cs u))
theorem p_box {α : Type} {L : Lay α} {z : α} {u : TypeId} (hr : BoxRun P ⟨some d, .box u x, t, p, af, g⟩ x u) (hg : GdE ops e g c) (hx : OpdE e c x (.st L z)) : Pays U P ops Q N e ⟨some d, .box u x, t, p, af, g⟩ (c, .at L z) :=
  pOf hg fun e a w F hF hk R hR => by
    obtain ⟨cs, h1, h2⟩ := hx a w F (fun s hs => hk s (by simp [Op.operands, hs])) e
    have hb : Below w.heap.size w (w.alloc (.cells cs.toArray u)) := (Below.refl _ _).alloc (Nat.le_refl _) _
    have hB := Blk.new w u cs.toArray
    unfold Oper.wp
    rw [hr _ w cs.toArray h1]
    refine hR _ _ hb ⟨w.heap.size, 0, cs, rfl, hB.lt, L.mono h2 (.of hb) (fun _ _ h => h), fun j hj => ⟨fun h => Nat.lt_irrefl _ (hF.lt _ h), ?_⟩⟩
    rw [hB.cell]; simp
/-- A field of a value. -/
def FieldOf (P : Program) (o : Oper) (x : Operand) (n m : Nat) : Prop := ∀ (ev : Operand → Value) (w : World) (c1 c2 c3 : List Value), ev x = .agg (c1 ++ (c2 ++ c3)).toArray → c1.length = n → c2.length = m → (execOp ev o).run P w = .ok (.value (.agg c2.toArray)) w
theorem p_field {α β : Type} {L : Lay α} {L' : Lay β} {n : Nat} {f : α → β} {z : α} {u : TypeId} {i : Nat} (hP : Part L L' n f) (hr : FieldOf P ⟨some d, .field u x i, t, p, af, g⟩ x n L'.n) (hg : GdE ops e g c) (hx : OpdE e c x (.st L z)) : Pays U P ops Q N e ⟨some d, .field u x i, t, p, af, g⟩ (c, .st L' (f z)) :=
  pVal hg fun e a w F hk => by
    obtain ⟨cs, h1, h2⟩ := hx a w F (fun s hs => hk s (by simp [Op.operands, hs])) e
    obtain ⟨c1, c2, c3, rfl, hl, h6⟩ := hP h2
    exact ⟨_, hr _ w c1 c2 c3 h1 hl (L'.len h6), c2, rfl, h6⟩
/-- A field of a value that takes one cell. -/
def FieldOf1 (P : Program) (o : Oper) (x : Operand) (n m : Nat) : Prop := ∀ (ev : Operand → Value) (w : World) (c1 c3 : List Value) (v : Value), ev x = .agg (c1 ++ ([v] ++ c3)).toArray → c1.length = n → (c1 ++ ([v] ++ c3)).length = m → (execOp ev o).run P w = .ok (.value v) w
theorem p_fieldV {α β : Type} {L : Lay α} {L' : Lay β} {n : Nat} {f : α → β} {z : α} {u : TypeId} {i : Nat} (h1 : L'.n = 1) (hP : Part L L' n f) (hr : FieldOf1 P ⟨some d, .field u x i, t, p, af, g⟩ x n L.n) (hg : GdE ops e g c) (hx : OpdE e c x (.st L z)) : Pays U P ops Q N e ⟨some d, .field u x i, t, p, af, g⟩ (c, .one L' (f z)) :=
  pVal hg fun e a w F hk => by
    obtain ⟨cs, e1, h2⟩ := hx a w F (fun s hs => hk s (by simp [Op.operands, hs])) e
    obtain ⟨c1, c2, c3, rfl, hl, h6⟩ := hP h2
    have hl2 := L'.len h6
    rw [h1] at hl2
    match c2, hl2 with
    | [v], _ => exact ⟨v, hr _ w c1 c3 v e1 hl (L.len h2), h6⟩
/-- Two struct values make one. -/
def BuildRun2 (P : Program) (o : Oper) (x x2 : Operand) (n m : Nat) : Prop := ∀ (ev : Operand → Value) (w : World) (c1 c2 : List Value), ev x = .agg c1.toArray → ev x2 = .agg c2.toArray → c1.length = n → c2.length = m → (execOp ev o).run P w = .ok (.value (.agg (c1 ++ c2).toArray)) w
theorem p_build2 {α β : Type} {L : Lay α} {L' : Lay β} {z : α} {z' : β} {u : TypeId} {i j : Nat} (hr : BuildRun2 P ⟨some d, .build u #[(i, x), (j, x2)], t, p, af, g⟩ x x2 L.n L'.n) (hg : GdE ops e g c) (hx : OpdE e c x (.st L z)) (hx2 : OpdE e c x2 (.st L' z')) : Pays U P ops Q N e ⟨some d, .build u #[(i, x), (j, x2)], t, p, af, g⟩ (c, .st (L.pr L') (z, z')) :=
  pVal hg fun e a w F hk => by
    obtain ⟨c1, h1, h2⟩ := hx a w F (fun s hs => hk s (by simp [Op.operands, hs])) e
    obtain ⟨c2, h3, h4⟩ := hx2 a w F (fun s hs => hk s (by simp [Op.operands, hs])) e
    exact ⟨_, hr _ w c1 c2 h1 h3 (L.len h2) (L'.len h4), c1 ++ c2, rfl, c1, c2, rfl, h2, h4⟩
/-- Two results. -/
def Sym.two (y1 y2 : Sym) : Sym := ⟨fun w F v => ∃ v1 v2, v = .tuple #[v1, v2] ∧ y1.on w F v1 ∧ y2.on w F v2, by rintro _ _ _ _ _ ⟨v1, v2, e, h1, h2⟩ hk hF; exact ⟨v1, v2, e, y1.mono h1 hk hF, y2.mono h2 hk hF⟩⟩
theorem p_ext0 {y1 y2 : Sym} (hg : GdE ops e g c) (hx : OpdE e c x (.two y1 y2)) : Pays U P ops Q N e ⟨some d, .extract x 0, t, p, af, g⟩ (c, y1) :=
  pVal hg fun e a w F hk => by
    obtain ⟨v1, v2, h1, h2, h3⟩ := hx a w F (fun s hs => hk s (by simp [Op.operands, hs])) e
    refine ⟨v1, ?_, h2⟩
    simp only [execOp, h1]
    rfl
theorem p_ext1 {y1 y2 : Sym} (hg : GdE ops e g c) (hx : OpdE e c x (.two y1 y2)) : Pays U P ops Q N e ⟨some d, .extract x 1, t, p, af, g⟩ (c, y2) :=
  pVal hg fun e a w F hk => by
    obtain ⟨v1, v2, h1, h2, h3⟩ := hx a w F (fun s hs => hk s (by simp [Op.operands, hs])) e
    refine ⟨v2, ?_, h3⟩
    simp only [execOp, h1]
    rfl

/-- What a function makes of what is known of its arguments. -/
def Gives (U : Prop) (P : Program) (f : FuncId) (vs : List Value) (ys : List Sym) (y : Sym) (w : World) (F : Cell → Prop) : Prop := ys.length = vs.length → (∀ (i : Nat) (v : Value) (y : Sym), vs[i]? = some v → ys[i]? = some y → y.on w F v) → FOK U F w → Calls P f vs.toArray w fun e w' => ∃ v, e = .returned v ∧ y.on w' F v ∧ Below w.heap.size w w'
def Fn (U : Prop) (P : Program) (f : FuncId) (ys : List Sym) (y : Sym) : Prop := ∀ w F vs, Gives U P f vs ys y w F
theorem fn_any {f : FuncId} {ys : List Sym} {y : Sym} (h : Fn False P f ys y) : Fn U P f ys y := fun w F vs hl ho hF => h w F vs hl ho ⟨hF.lt, fun h => h.elim⟩
def CallRun (P : Program) (o : Oper) (A : List Operand) (f : FuncId) : Prop := ∀ (a : Act) (w : World), (execOp a.eval o).run P w = .ok (.enter f (A.map a.eval).toArray) w
def OpdsE (e : Env) (c : Bool) : List Operand → List Sym → Prop
  | [], [] => True
  | x :: xs, y :: ys => OpdE e c x y ∧ OpdsE e c xs ys
  | _, _ => False
theorem ox {c : Bool} {x : Operand} {xs : List Operand} {y : Sym} {ys : List Sym} (h : OpdE e c x y) (hr : OpdsE e c xs ys) : OpdsE e c (x :: xs) (y :: ys) := ⟨h, hr⟩
theorem ox0 {c : Bool} : OpdsE e c [] [] := True.intro
theorem opds_len {c : Bool} : ∀ {xs : List Operand} {ys : List Sym}, OpdsE e c xs ys → ys.length = xs.length
  | [], [], _ => rfl
  | _ :: _, _ :: _, h => by rw [List.length_cons, List.length_cons, opds_len h.2]
theorem opds_at {c : Bool} {a : Act} {w : World} {F : Cell → Prop} (hc : c = true) : ∀ {xs : List Operand} {ys : List Sym}, OpdsE e c xs ys → (∀ x ∈ xs, ∀ s ∈ slotsOf x, SlotOK e F a w s) → ∀ (i : Nat) (v : Value) (y : Sym), (xs.map a.eval)[i]? = some v → ys[i]? = some y → y.on w F v
  | x :: xs, y :: ys, h, hk, 0, v, y', h1, h2 => by simp at h1 h2; subst h1 h2; exact h.1 a w F (hk x List.mem_cons_self) hc
  | x :: xs, y :: ys, h, hk, i + 1, v, y', h1, h2 => opds_at hc h.2 (fun x' hx' => hk x' (List.mem_cons_of_mem _ hx')) i v y' (by simpa using h1) (by simpa using h2)
  | [], [], _, _, i, v, y, h1, _ => by simp at h1
theorem p_call (f : FuncId) {A : List Operand} {T : Array TypeId} {ys : List Sym} (hg : GdE ops e g c) (hx : OpdsE e c A ys) (hr : CallRun P ⟨some d, .call { callee := .value (.func f), args := A.toArray, argTypes := T }, t, p, af, g⟩ A f) (hc : Fn U P f ys y) :
    Pays U P ops Q N e ⟨some d, .call { callee := .value (.func f), args := A.toArray, argTypes := T }, t, p, af, g⟩ (c, y) :=
  pOf hg fun e a w F hF hk R hR => by
    unfold Oper.wp
    rw [hr, Oper.upon_enter]
    refine (hc w F (A.map a.eval) (by rw [List.length_map]; exact opds_len hx) (opds_at e hx (fun x hx' s hs => hk s ?_)) hF).mono ?_
    · simp only [Op.operands, Call.operands, Array.toList_append, List.flatMap_append]
      exact List.mem_append_right _ (List.mem_flatMap.2 ⟨x, by simpa using hx', hs⟩)
    · rintro _ w' ⟨v, rfl, h1, h2⟩
      exact hR v w' h2 h1
/-- A new variable. -/
def AllocRun (P : Program) (o : Oper) (u : TypeId) (z : Array Value) : Prop := ∀ (ev : Operand → Value) (w : World), (execOp ev o).run P w = .ok (.value (.pointer (some ⟨w.heap.size, 0, none⟩))) (w.alloc (.cells z u))
theorem m_alloc {u : TypeId} {z : Array Value} (hr : AllocRun P ⟨some d, .alloc u, t, p, af, none⟩ u z) (hu : U → ∀ (i : Nat) (x : Int), z[i]? ≠ some (.int .u32 x)) : Makes U P ops Q N e ⟨some d, .alloc u, t, p, af, none⟩ u z :=
  ⟨fun a w F _ _ R hR => by
    rw [if_pos (by simp [Region.wanted])]
    unfold Oper.wp
    rw [hr]
    exact hR _ _ ((Below.refl _ _).alloc (Nat.le_refl _) _) rfl (Blk.new w u z) (by simp), hu⟩
end
end
end Go.Proofs.Ytbeeiecbbmiojaa.Y
