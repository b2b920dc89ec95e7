/- What a caller hands in, by its type: what it stands for. No program in sight. -/
import Derived.Test.YtbeeiecbbmiojaaYlay
import Derived.Test.YtbeeiecbbmiojaaOpen
namespace Go.Proofs.Ytbeeiecbbmiojaa.Y
open Go.RowKit Go.WideShapes

def noF : Cell → Prop := fun _ => False
def Opens {α : Type} (P : Program) (T : TypeId) (L : Lay α) (ok : α → Prop) : Prop :=
  ∀ {H : Type} (enc : TypeId × Value → H) (w : World) (fuel : Nat) (cs : List Value) (d : DataW H) (ps : List MemPlace), DataW.trod enc P w 0 (fun _ => true) true fuel T cs = some (d, ps) → (∀ p ∈ ps, p.block < w.heap.size) → ∃ x, ok x ∧ L.on w noF cs x
section
variable {P : Program}
theorem opens_int {T : TypeId} {k : IntKind} (ht : P.underlying T = some (.int k)) : Opens P T (Lay.int k) (fun x => (Lit.int k x).wf = true) := fun enc w fuel cs d ps h _ => by
  obtain ⟨n, hc, _, hw⟩ := DataW.trod_int ht h
  exact ⟨n, hw, hc⟩
theorem opens_bool {T : TypeId} (ht : P.underlying T = some .bool) : Opens P T Lay.bool (fun _ => True) := fun enc w fuel cs d ps h _ => by
  obtain ⟨b, hc, _⟩ := DataW.trod_bool ht h
  exact ⟨b, True.intro, hc⟩
theorem opens_slice {α : Type} {L : Lay α} {ok : α → Prop} {T e : TypeId} (i : Inhabited α) (ht : P.underlying T = some (.slice e)) (hn : P.cellsOf e = L.n) (hp : 0 < L.n) (he : Opens P e L ok) : Opens P T (Lay.sl L) (fun l => l.length ≤ maxLen ∧ ∀ x ∈ l, ok x) := fun enc w fuel cs d ps h hlt => by
  obtain ⟨A, l, c, hc, hm, hr⟩ := open_sliceR (R := fun w _ cs x => ok x ∧ L.on w noF cs x) (B := w.heap.size) ht hn hp (fun fuel cs d ps h hlt => he enc w fuel cs d ps h hlt) h hlt
  have hcap : l.length ≤ c := by
    rcases Go.Deep.open_slice ht h with ⟨hc', _⟩ | ⟨a, len, cap, m, n, D, Pl, hc', hb, hl, hm, hmm, hx, hi⟩
    · rw [hc] at hc'
      simp only [List.cons.injEq, Value.slice.injEq, and_true] at hc'
      omega
    · rw [hc] at hc'
      simp only [List.cons.injEq, Value.slice.injEq, and_true] at hc'
      omega
  refine ⟨l, ⟨hm, fun x hx => ?_⟩, A, c, hc, fun hl => ?_, hcap⟩
  · obtain ⟨j, hj, rfl⟩ := List.getElem_of_mem hx
    obtain ⟨b, off, _, _, hh⟩ := hr (by omega)
    obtain ⟨_, _, _, h3, _⟩ := hh j hj
    exact h3
  · obtain ⟨b, off, e1, hb, hh⟩ := hr hl
    refine ⟨b, off, e1, hb, fun j hj => ?_⟩
    obtain ⟨cs', h1, h2, _, h4⟩ := hh j hj
    exact ⟨cs', h4, fun j hj => ⟨fun h => h, h2 j hj⟩⟩
theorem opens_via {α β : Type} {L : Lay α} {ok : α → Prop} {ok' : β → Prop} {T : TypeId} {f : β → α} (g : α → β) (hg : ∀ x, f (g x) = x) (hok : ∀ x, ok x → ok' (g x)) (h : Opens P T L ok) : Opens P T (L.via f) ok' := fun enc w fuel cs d ps ht hlt => by
  obtain ⟨x, h1, h2⟩ := h enc w fuel cs d ps ht hlt
  exact ⟨g x, hok x h1, by show L.on w noF cs (f (g x)); rw [hg]; exact h2⟩
theorem opens_mono {α : Type} {L : Lay α} {ok ok' : α → Prop} {T : TypeId} (hok : ∀ x, ok x → ok' x) (h : Opens P T L ok) : Opens P T L ok' := fun enc w fuel cs d ps ht hlt => by
  obtain ⟨x, h1, h2⟩ := h enc w fuel cs d ps ht hlt
  exact ⟨x, hok x h1, h2⟩
/-- Fields, from a cell on. -/
def OpensFs {α : Type} (P : Program) (fs : List Field) (off : Nat) (L : Lay α) (ok : α → Prop) : Prop :=
  ∀ {H : Type} (enc : TypeId × Value → H) (w : World) (n : Nat) (cs : List Value) (xs : List (DataW H × List MemPlace)), (∀ (i : Nat) (f : Field), fs[i]? = some f → DataW.trod enc P w 0 (fun _ => true) true n f.type ((cs.drop f.offset).take (P.cellsOf f.type)) = xs[i]?) →
    xs.length = fs.length → (∀ p ∈ xs.flatMap (·.2), p.block < w.heap.size) → cs.length = off + L.n → ∃ x, ok x ∧ L.on w noF (cs.drop off) x
theorem fs_last {α : Type} {L : Lay α} {ok : α → Prop} {f : Field} {off : Nat} (ho : f.offset = off) (hn : P.cellsOf f.type = L.n) (h : Opens P f.type L ok) : OpensFs P [f] off L ok := fun enc w n cs xs hx hl hlt hc => by
  match xs, hl with
  | [y], _ =>
    have h0 := hx 0 f rfl
    rw [ho, hn] at h0
    have e1 : (cs.drop off).take L.n = cs.drop off := List.take_of_length_le (by simp; omega)
    rw [e1] at h0
    exact h enc w n _ y.1 y.2 h0 (fun p hp => hlt p (by simpa using hp))
theorem fs_cons {α β : Type} {A : Lay α} {B : Lay β} {okA : α → Prop} {okB : β → Prop} {f : Field} {fs : List Field} {off : Nat} (ho : f.offset = off) (hn : P.cellsOf f.type = A.n) (h : Opens P f.type A okA) (hr : OpensFs P fs (off + A.n) B okB) : OpensFs P (f :: fs) off (A.pr B) (fun x => okA x.1 ∧ okB x.2) := fun enc w n cs xs hx hl hlt hc => by
  match xs, hl with
  | y :: ys, hl =>
    have h0 := hx 0 f rfl
    rw [ho, hn] at h0
    obtain ⟨x1, o1, l1⟩ := h enc w n _ y.1 y.2 h0 (fun p hp => hlt p (by simp; exact .inl hp))
    have hc' : cs.length = off + (A.n + B.n) := hc
    obtain ⟨x2, o2, l2⟩ := hr enc w n cs ys (fun i f' hf => hx (i + 1) f' hf) (by simpa using hl) (fun p hp => hlt p (by simp at hp ⊢; exact .inr hp)) (by omega)
    refine ⟨(x1, x2), ⟨o1, o2⟩, (cs.drop off).take A.n, cs.drop (off + A.n), ?_, l1, l2⟩
    rw [← List.drop_drop, List.take_append_drop]
theorem opens_struct {α : Type} {L : Lay α} {ok : α → Prop} {T : TypeId} {fs : List Field} (ht : P.underlying T = some (.struct fs.toArray)) (hn : P.cellsOf T = L.n) (h : OpensFs P fs 0 L ok) : Opens P T L ok := fun enc w fuel cs d ps hd hlt => by
  obtain ⟨xs, n, _, hx, hl, hlen, hf⟩ := DataW.trod_struct ht hd
  simp only [Prod.mk.injEq] at hx
  have := h enc w n cs xs (fun i f hi => hf i f (by simpa using hi)) (by simpa using hlen) (fun p hp => hlt p (by rw [hx.2]; exact hp)) (by omega)
  simpa using this
theorem opens_arr {α : Type} {L : Lay α} {ok : α → Prop} {T e : TypeId} {k : Nat} (ht : P.underlying T = some (.array k e)) (hn : P.cellsOf e = L.n) (hT : P.cellsOf T = k * L.n) (h : Opens P e L ok) : Opens P T (Lay.arr L k) (fun l => ∀ x ∈ l, ok x) := fun enc w fuel cs d ps hd hlt => by
  obtain ⟨xs, n, _, hx, hl, hlen, hf⟩ := DataW.trod_array ht hd
  simp only [Prod.mk.injEq] at hx
  have hpos : ∀ i, i < k → ∃ x, ok x ∧ L.on w noF ((cs.drop (i * L.n)).take L.n) x := fun i hi => by
    have h0 := hf i hi
    rw [hn, List.getElem?_eq_getElem (by omega)] at h0
    exact h enc w n _ _ _ h0 (fun p hp => hlt p (by rw [hx.2]; exact List.mem_flatMap.2 ⟨_, List.getElem_mem (by omega), hp⟩))
  have row : ∀ (m : Nat), m ≤ k → ∃ l : List α, l.length = m ∧ (∀ x ∈ l, ok x) ∧ RowOn L w noF (cs.drop ((k - m) * L.n)) l := by
    intro m
    induction m with
    | zero =>
      intro _
      refine ⟨[], rfl, (fun x h => by cases h), ?_⟩
      show cs.drop _ = []
      rw [List.drop_eq_nil_iff]
      simp only [Nat.sub_zero]; omega
    | succ m ih =>
      intro hm
      obtain ⟨l, h1, h2, h3⟩ := ih (by omega)
      obtain ⟨x, o1, o2⟩ := hpos (k - (m + 1)) (by omega)
      refine ⟨x :: l, by rw [List.length_cons, h1], fun y hy => ?_, _, _, ?_, o2, h3⟩
      · rcases List.mem_cons.1 hy with rfl | hy
        · exact o1
        · exact h2 y hy
      · have e1 : k - m = (k - (m + 1)) + 1 := by omega
        rw [e1, Nat.succ_mul, ← List.drop_drop, List.take_append_drop]
  obtain ⟨l, h1, h2, h3⟩ := row k (Nat.le_refl _)
  rw [Nat.sub_self, Nat.zero_mul, List.drop_zero] at h3
  exact ⟨l, h2, h1, h3⟩

/-- A parameter, opened. -/
theorem open_st {H : Type} {enc : TypeId × Value → H} {w : World} {base : Nat} {α : Type} {L : Lay α} {ok : α → Prop} {T : TypeId} {r : Reach} {v : Value} {d : DataW H} {ps : List MemPlace} {ty : TypeDesc} (ht : P.underlying T = some ty) (hty : ty.isRow = true) (ho : Opens P T L ok)
    (hv : Value.okWide P w r base T v) (h : DataW.Trod enc P w 0 (fun _ => true) true T v d ps) (hlt : ∀ p ∈ ps, p.block < w.heap.size) : ∃ x, ok x ∧ (Sym.st L x).on w noF v := by
  obtain ⟨cs, rfl⟩ : ∃ cs, v = .agg cs := by
    simp only [Value.okWide, ht] at hv
    cases ty <;> simp [TypeDesc.isRow] at hty <;> exact ⟨_, hv.choose_spec.1⟩
  obtain ⟨fuel, hf⟩ := h
  obtain ⟨x, h1, h2⟩ := ho enc w fuel _ d ps hf hlt
  exact ⟨x, h1, cs.toList, by simp, h2⟩
theorem open_sl {H : Type} {enc : TypeId × Value → H} {w : World} {base : Nat} {α : Type} {L : Lay (List α)} {ok : List α → Prop} {T e : TypeId} {r : Reach} {v : Value} {d : DataW H} {ps : List MemPlace} (ht : P.underlying T = some (.slice e)) (ho : Opens P T L ok)
    (hv : Value.okWide P w r base T v) (h : DataW.Trod enc P w 0 (fun _ => true) true T v d ps) (hlt : ∀ p ∈ ps, p.block < w.heap.size) : ∃ x, ok x ∧ (Sym.one L x).on w noF v := by
  obtain ⟨a, len, cap, rfl⟩ := okWide_slice ht hv
  obtain ⟨fuel, hf⟩ := h
  obtain ⟨x, h1, h2⟩ := ho enc w fuel _ d ps hf hlt
  exact ⟨x, h1, by simpa [Value.cells, Sym.one] using h2⟩
theorem fok_none (U : Prop) (w : World) : FOK U noF w := ⟨fun _ h => h.elim, fun _ _ h => h.elim⟩
end
end Go.Proofs.Ytbeeiecbbmiojaa.Y
