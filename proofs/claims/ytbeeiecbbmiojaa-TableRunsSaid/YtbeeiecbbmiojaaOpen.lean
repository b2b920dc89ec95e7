/- What an argument reads as, by its type: a slice of whatever elements reads as a list whose elements read each by its own relation. No program in sight. -/
import Derived.Test.YtbeeiecbbmiojaaBase
import Derived.Deep.Slices
import Derived.OpenShut
namespace Go.Proofs.Ytbeeiecbbmiojaa
open Go.RowKit Go.ChangeShapes Go.WideShapes

def SliceR {α : Type} (sz : Nat) (R : World → Nat → List Value → α → Prop) (w : World) (B : Nat) (A : Option Addr) (l : List α) : Prop :=
  0 < l.length → ∃ b off, A = some ⟨b, off, none⟩ ∧ b < B ∧ ∀ i (h : i < l.length), ∃ cs : List Value, cs.length = sz ∧ (∀ j (hj : j < cs.length), w.cell? ⟨b, off + i * sz + j, none⟩ = some cs[j]) ∧ R w B cs l[i]

theorem SliceR.keep {α : Type} {sz : Nat} {R : World → Nat → List Value → α → Prop} {w w' : World} {B : Nat} {A : Option Addr} {l : List α} (h : SliceR sz R w B A l)
    (hR : ∀ cs x, R w B cs x → R w' B cs x) (hk : ∀ p : Addr, p.block < B → w'.cell? p = w.cell? p) : SliceR sz R w' B A l := fun hl => by
  obtain ⟨b, off, e, hb, hc⟩ := h hl
  refine ⟨b, off, e, hb, fun i hi => ?_⟩
  obtain ⟨cs, h1, h2, h3⟩ := hc i hi
  exact ⟨cs, h1, fun j hj => (hk ⟨b, off + i * sz + j, none⟩ hb).trans (h2 j hj), hR _ _ h3⟩

section
variable {H : Type} {enc : TypeId × Value → H} {P : Program} {w : World} {B : Nat}

theorem add_none (b off n : Nat) : (⟨b, off, none⟩ : Addr).add n = ⟨b, off + n, none⟩ := by
  unfold Addr.add; split <;> simp_all

theorem open_sliceR {α : Type} [Inhabited α] {R : World → Nat → List Value → α → Prop} {t e : TypeId} {sz fuel : Nat} {cs : List Value} {d : DataW H} {ps : List MemPlace}
    (ht : P.underlying t = some (.slice e)) (hsz : P.cellsOf e = sz) (hpos : 0 < sz)
    (hR : ∀ fuel cs d ps, DataW.trod enc P w 0 (fun _ => true) true fuel e cs = some (d, ps) → (∀ p ∈ ps, p.block < B) → ∃ x, R w B cs x)
    (h : DataW.trod enc P w 0 (fun _ => true) true fuel t cs = some (d, ps)) (hlt : ∀ p ∈ ps, p.block < B) :
    ∃ (A : Option Addr) (l : List α) (c : Nat), cs = [.slice A l.length c] ∧ l.length ≤ maxLen ∧ SliceR sz R w B A l := by
  rcases Go.Deep.open_slice ht h with ⟨rfl, _⟩ | ⟨a, len, cap, m, n, D, Pl, rfl, hb, hl, hm, hmm, hx, hi⟩
  · exact ⟨none, [], 0, rfl, Nat.zero_le _, fun h => absurd h (by simp)⟩
  · simp only [if_true] at hmm
    subst hmm
    simp only [Prod.mk.injEq] at hx
    rw [hsz] at hi hx
    have each : ∀ i, i < len → ∃ x : α, ∃ cs' : List Value, cs'.length = sz ∧ (∀ j (hj : j < cs'.length), w.cell? ((a.add (i * sz)).add j) = some cs'[j]) ∧ R w B cs' x := by
      intro i hi'
      obtain ⟨cs', hc, htr⟩ := hi i (by omega)
      obtain ⟨_, hcl, hat⟩ := World.cells?_some hc
      obtain ⟨x, hx'⟩ := hR _ _ _ _ htr (fun p hp => hlt p (by
        rw [hx.2]
        exact List.mem_append_right _ (List.mem_flatMap.2 ⟨i, List.mem_range.2 (by omega), hp⟩)))
      exact ⟨x, cs', hcl, fun j hj => by rw [hat j (by omega)]; exact List.getElem?_eq_getElem hj, hx'⟩
    obtain ⟨f, hf⟩ := Go.Deep.choose_lt each
    refine ⟨some a, (List.range len).map f, m, by simp, by simp; omega, fun hl0 => ?_⟩
    have hl0' : 0 < len := by simpa using hl0
    obtain ⟨b, off, spot⟩ := a
    have hspot : spot = none := by
      obtain ⟨cs', hcl, hat, _⟩ := hf 0 hl0'
      have h0 := hat 0 (by omega)
      have : (((⟨b, off, spot⟩ : Addr).add (0 * sz)).add 0) = ⟨b, off, spot⟩ := by simp [Addr.add]
      rw [this] at h0
      exact World.cell?_spot h0
    subst hspot
    refine ⟨b, off, rfl, ?_, fun i hi' => ?_⟩
    · refine hlt (.cell b off) ?_
      rw [hx.2]
      refine List.mem_append_left _ ?_
      unfold MemPlace.row
      exact List.mem_map.2 ⟨0, List.mem_range.2 (Nat.mul_pos (by omega) hpos), by simp⟩
    · obtain ⟨cs', hcl, hat, hr⟩ := hf i (by simpa using hi')
      refine ⟨cs', hcl, fun j hj => ?_, by simpa using hr⟩
      rw [← add_none, ← add_none]
      exact hat j hj
end

/-- One integer of a kind. -/
def IntR (k : IntKind) (_w : World) (_B : Nat) (cs : List Value) (x : Int) : Prop := cs = [.int k x] ∧ (Lit.int k x).wf = true

theorem open_intR {H : Type} {enc : TypeId × Value → H} {P : Program} {w : World} {B fuel : Nat} {t : TypeId} {k : IntKind} {cs : List Value} {d : DataW H} {ps : List MemPlace}
    (ht : P.underlying t = some (.int k)) (h : DataW.trod enc P w 0 (fun _ => true) true fuel t cs = some (d, ps)) : ∃ x, IntR k w B cs x := by
  obtain ⟨n, hc, _, hw⟩ := DataW.trod_int ht h
  exact ⟨n, hc, hw⟩

/-- A row of integers. -/
def IntsAt (k : IntKind) (w : World) (B : Nat) (A : Option Addr) (l : List Int) : Prop :=
  0 < l.length → ∃ b off, A = some ⟨b, off, none⟩ ∧ b < B ∧ ∀ i (h : i < l.length), w.cell? ⟨b, off + i, none⟩ = some (.int k l[i])

theorem IntsAt.keep {k : IntKind} {w w' : World} {B : Nat} {A : Option Addr} {l : List Int} (h : IntsAt k w B A l) (hk : ∀ p : Addr, p.block < B → w'.cell? p = w.cell? p) : IntsAt k w' B A l := fun hl => by
  obtain ⟨b, off, e, hb, hc⟩ := h hl
  exact ⟨b, off, e, hb, fun i hi => (hk ⟨b, off + i, none⟩ hb).trans (hc i hi)⟩
theorem IntsAt.below {k : IntKind} {w w' : World} {B : Nat} {A : Option Addr} {l : List Int} (h : IntsAt k w B A l) (hb : Below B w w') : IntsAt k w' B A l := h.keep fun _ hp => hb.cell hp
theorem IntsAt.more {k : IntKind} {w : World} {B B' : Nat} {A : Option Addr} {l : List Int} (h : IntsAt k w B A l) (hB : B ≤ B') : IntsAt k w B' A l := fun hl => by
  obtain ⟨b, off, e, hb, hc⟩ := h hl
  exact ⟨b, off, e, by omega, hc⟩
theorem intsAt_of {k : IntKind} {w : World} {B : Nat} {A : Option Addr} {l : List Int} (h : SliceR 1 (IntR k) w B A l) : IntsAt k w B A l ∧ ∀ x ∈ l, (Lit.int k x).wf = true := by
  refine ⟨fun hl => ?_, fun x hx => ?_⟩
  · obtain ⟨b, off, e, hb, hc⟩ := h hl
    refine ⟨b, off, e, hb, fun i hi => ?_⟩
    obtain ⟨cs, h1, h2, h3, _⟩ := hc i hi
    subst h3
    simpa using h2 0 (by simp)
  · obtain ⟨i, hi, rfl⟩ := List.getElem_of_mem hx
    obtain ⟨b, off, e, hb, hc⟩ := h (by omega)
    obtain ⟨cs, h1, h2, _, h3⟩ := hc i hi
    exact h3

/-- A parameter that is a slice of integers, opened. -/
theorem open_intsV {H : Type} {enc : TypeId × Value → H} {P : Program} {w : World} {base : Nat} {t e : TypeId} {k : IntKind} {v : Value} {d : DataW H} {ps : List MemPlace}
    (ht : P.underlying t = some (.slice e)) (he : P.underlying e = some (.int k)) (hsz : P.cellsOf e = 1)
    (hv : Value.okWide P w .any base t v) (h : DataW.Trod enc P w 0 (fun _ => true) true t v d ps) (hlt : ∀ p ∈ ps, p.block < w.heap.size) :
    ∃ (A : Option Addr) (l : List Int) (c : Nat), v = .slice A l.length c ∧ l.length ≤ maxLen ∧ IntsAt k w w.heap.size A l ∧ ∀ x ∈ l, (Lit.int k x).wf = true := by
  obtain ⟨a, len, cap, rfl⟩ := okWide_slice ht hv
  obtain ⟨fuel, hf⟩ := h
  obtain ⟨A, l, c, hcs, hm, hr⟩ := open_sliceR (R := IntR k) ht hsz (by omega) (fun _ _ _ _ h _ => open_intR he h) hf hlt
  simp [Value.cells] at hcs
  obtain ⟨rfl, rfl, rfl⟩ := hcs
  exact ⟨_, l, _, rfl, hm, (intsAt_of hr).1, (intsAt_of hr).2⟩

end Go.Proofs.Ytbeeiecbbmiojaa
