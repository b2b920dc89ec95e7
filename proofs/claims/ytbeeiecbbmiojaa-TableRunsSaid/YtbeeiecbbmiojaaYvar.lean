/- Variables of a call's own whose fields are stored to. No program in sight. -/
import Derived.Test.YtbeeiecbbmiojaaYown
namespace Go.Proofs.Ytbeeiecbbmiojaa.Y
open Go.RowKit
variable {Df : List Deferred}

section
variable {P : Program} {Q : Exit → Act → World → Prop} {a : Act} {w : World}
/-- One cell is stored. -/
theorem wpList_store_cell {ops : Array Oper} {rest : List Oper} {op : Oper} (hgd : op.guard = none) (ty : TypeId) (x y : Operand) (ho : op.op = .store ty x y)
    (b o : Nat) (v : Value) (hx : a.eval x = .pointer (some ⟨b, o, none⟩)) (hy : a.eval y = v) (hvc : v.cells = #[v]) (hc : (w.cell? ⟨b, o, none⟩).isSome = true) (hf : w.frozen? ⟨b, o, none⟩ = false) (hi : (P.info? ty).map (·.size) = some 1) (h1 : v.oneCell' = true)
    (h : wpList P ops Q rest (a.put op.dst undef) (w.setCells b o [v])) : wpList P ops Q (op :: rest) a w := by
  have := run_storeCells_cells (P := P) b o [v] 0 w (fun j hj => by have : j = 0 := by simpa using hj
                                                                    subst this; simpa using hc) (fun j hj => by have : j = 0 := by simpa using hj
                                                                                                                subst this; simpa using hf) (fun u hu => by simp at hu; subst hu; exact h1)
  refine wpList_plain hgd fun _ hK => ?_
  unfold Oper.wp execOp
  cases hq : P.info? ty with
  | none => simp [hq] at hi
  | some i =>
    have hs : i.size = 1 := by simpa [hq] using hi
    simp only [Nat.add_zero] at this
    have hr : (storeVar ty ⟨b, o, none⟩ v).run P w = .ok () (w.setCells b o [v]) := by
      simp [storeVar, sizeOf, typeInfo, hq, hvc, hs, this]
    simp only [ho, hx, hy, Instr.storeAt, Instr.sureAddr, Sem.run_bind, Sem.run_pure, Result.andThen_ok, hr]
    exact hK _ _ h
end
/-- Known off block g, too. -/
def Sym.off (g : Nat) (y : Sym) : Sym := ⟨fun w F v => y.on w (Also F [g]) v, fun h hk hF => y.mono h ⟨hk.size, fun k h1 h2 => hk.block k h1 fun h => h2 (.inl h), fun b h1 h2 => hk.whole b h1 fun o h => h2 o (.inl h)⟩ fun k hk' h => h.imp (hF k hk') id⟩
section
variable {U : Prop} {N : Nat} {e : Env} {F : Cell → Prop} {a : Act} {w w' : World} {g : Nat}
theorem StE.off (h : StE U N e (Also F [g]) a w Df) : StE U N (e.map fun p => (p.1, p.2.1, Sym.off g p.2.2)) F a w Df := by
  refine ⟨h.size, h.defers, h.fok.sub fun k hk => .inl hk, fun s k hk => ?_⟩
  have : ∀ (e : Env), (∀ k, e.lookup s = some k → KnownV k w (Also F [g]) (a.tmps.getD s undef)) → (e.map fun p => (p.1, p.2.1, Sym.off g p.2.2)).lookup s = some k → KnownV k w F (a.tmps.getD s undef) := by
    intro e
    induction e with
    | nil => intro _ h; cases h
    | cons p t ih =>
      intro hh hl
      rw [List.map_cons, List.lookup_cons] at hl
      cases hb : s == p.1 with
      | true =>
        rw [hb] at hl; simp only [Option.some.injEq] at hl; subst hl
        have := hh p.2 (by rw [show p = (p.1, p.2) from rfl, List.lookup_cons, hb])
        exact ⟨fun e => this.1 e, this.2⟩
      | false =>
        rw [hb] at hl
        exact ih (fun k hk => hh k (by rw [show p = (p.1, p.2) from rfl, List.lookup_cons, hb]; exact hk)) hl
  exact this e (h.known s) hk
/-- What stays known where block g is written again. -/
def OffAll (e : Env) (g : Nat) : Env → Prop
  | [] => True
  | (s, c, y) :: t => (e.lookup s = some (c, .off g y) ∨ (e.lookup s = some (c, y) ∧ ∀ w F F' v, y.on w F v → y.on w F' v)) ∧ OffAll e g t
theorem uo {e' : Env} (s : Nat) {c : Bool} {y : Sym} (h : e.lookup s = some (c, .off g y)) (hr : OffAll e g e') : OffAll e g ((s, c, y) :: e') := ⟨.inl h, hr⟩
theorem uv {e' : Env} (s : Nat) {c : Bool} {x : Value} (h : e.lookup s = some (c, .val x)) (hr : OffAll e g e') : OffAll e g ((s, c, .val x) :: e') := ⟨.inr ⟨h, fun _ _ _ _ h => h⟩, hr⟩
theorem un : OffAll e g [] := True.intro
theorem offAll_at : ∀ {e' : Env}, OffAll e g e' → ∀ s k, e'.lookup s = some k → e.lookup s = some (k.1, .off g k.2) ∨ (e.lookup s = some k ∧ ∀ w F F' v, k.2.on w F v → k.2.on w F' v)
  | (s, c, y) :: t, h, s', k, hk => by
    rw [List.lookup_cons] at hk
    cases hb : s' == s with
    | true => rw [hb] at hk; simp at hk hb; subst hb hk; exact h.1
    | false => rw [hb] at hk; exact offAll_at h.2 s' k hk
theorem StE.unoff {e' : Env} (h : StE U N e F a w Df) (hF : FOK U (Also F [g]) w) (ho : OffAll e g e') : StE U N e' (Also F [g]) a w Df := ⟨h.size, h.defers, hF, fun s k hk => by
  rcases offAll_at ho s k hk with h1 | ⟨h1, h2⟩
  · have := h.known s _ h1
    exact ⟨fun e => this.1 e, this.2⟩
  · have := h.known s _ h1
    exact ⟨fun e => h2 _ _ _ _ (this.1 e), this.2⟩⟩
theorem keeps_setCells {o : Nat} {vs : List Value} (hF : ∀ o, F (g, o)) : Keeps F w (w.setCells g o vs) := by
  have G : w.grownBy (w.setCells g o vs) (some g) := only_setCells vs o (only_refl w (some g))
  refine ⟨G.size, fun k hk hn => World.cell?_of_block (G.block k.1 hk fun e => hn ?_), fun b hb hn => G.block b hb fun e => hn 0 ?_⟩
  · injection e with e; rw [show k = (g, k.2) from by rw [← e]]; exact hF _
  · injection e with e; rw [e]; exact hF 0
/-- A variable known by its cells. -/
theorem at_of_blk {α : Type} {L : Lay α} {x : α} {T : TypeId} {cs : Array Value} (hB : Blk w g T cs) (hL : L.on w F cs.toList x) (hF : ∀ o, ¬ F (g, o)) : (Sym.at L x).on w F (.pointer (some ⟨g, 0, none⟩)) := ⟨g, 0, cs.toList, rfl, hB.lt, hL, fun j hj => ⟨hF _, by rw [hB.cell]; simp⟩⟩
/-- The place of a field of a variable that is known outright. -/
theorem p_faV {P : Program} {ops : Array Oper} {Q : Exit → Act → World → Prop} {d : Nat} {t : TypeId} {p : String} {af : Array Edge} {gd : Option (Nat × Bool)} {c : Bool} {x : Operand} {u : TypeId} {i n b off : Nat} {y : Sym} (hr : FieldRun P ⟨some d, .fieldAddr u x i, t, p, af, gd⟩ x n) (hg : GdE ops e gd c) (hx : OpdE e c x (.both (.val (.pointer (some ⟨b, off, none⟩))) y)) : Pays U P ops Q N e ⟨some d, .fieldAddr u x i, t, p, af, gd⟩ (c, .val (.pointer (some ⟨b, off + n, none⟩))) :=
  pVal hg fun e a w F hk => ⟨_, hr _ w b off (hx a w F (fun s hs => hk s (by simp [Op.operands, hs])) e).1, rfl⟩
end
end Go.Proofs.Ytbeeiecbbmiojaa.Y
