/- What holds of a region's values, told slot by slot, beside blocks that are written: each operation pays once, whatever the order and the guards. No program in sight. -/
import Derived.Test.YtbeeiecbbmiojaaBase
import Derived.StillTail
import Derived.Deep.Draws
import Derived.Laws.CopyOwn
import Derived.Laws.Tables
namespace Go.Proofs.Ytbeeiecbbmiojaa.Y
open Go.RowKit
variable {Df : List Deferred}

/-- Each edge points back. -/
def backB (ops : Array Oper) : Bool := (List.range ops.size).all fun i => (ops[i]?).all fun o => o.after.all fun e => !Region.binds .any e || decide (e.on < i)
def todo (n : Nat) (listed : Array Bool) : Nat := ((List.range n).filter fun i => !listed.getD i true).length
theorem todo_set {n i : Nat} {listed : Array Bool} (hi : i < n) (hun : listed.getD i true = false) : todo n (listed.setIfInBounds i true) < todo n listed := by
  have hsz : i < listed.size := by
    rcases Nat.lt_or_ge i listed.size with h | h
    · exact h
    · simp [Array.getElem?_eq_none h] at hun
  unfold todo
  have hsub : ((List.range n).filter fun j => !(listed.setIfInBounds i true).getD j true) = ((List.range n).filter fun j => !listed.getD j true).filter fun j => decide (j ≠ i) := by
    rw [List.filter_filter]
    congr 1
    funext j
    by_cases e : j = i
    · subst e
      simp [hsz]
    · rw [getD_set_ne true (Ne.symm e)]
      simp [e]
  rw [hsub]
  refine List.length_filter_lt_length_iff_exists.2 ⟨i, List.mem_filter.2 ⟨List.mem_range.2 hi, by rw [hun]; rfl⟩, by simp⟩
theorem todo_zero {n : Nat} {listed : Array Bool} (h : todo n listed = 0) : ∀ i, i < n → listed.getD i true = true := fun i hi => by
  have h0 := List.eq_nil_of_length_eq_zero h
  cases hg : listed.getD i true with
  | true => rfl
  | false =>
    have : i ∈ ((List.range n).filter fun i => !listed.getD i true) := List.mem_filter.2 ⟨List.mem_range.2 hi, by rw [hg]; rfl⟩
    rw [h0] at this
    cases this
/-- The first n are done, the others are not. -/
def headDone (n m : Nat) : Array Bool := Array.replicate n true ++ Array.replicate (m - n) false
section
variable {P : Program} {ops : Array Oper} {Q : Exit → Act → World → Prop}
theorem wpAny_more : ∀ (f : Nat) (listed : Array Bool) (a : Act) (w : World), wpAny P .any ops Q f listed a w → wpAny P .any ops Q (f + 1) listed a w
  | 0, listed, a, w, h => ⟨fun _ => h.2, fun i hi => by rw [h.1] at hi; cases hi⟩
  | f + 1, listed, a, w, h => ⟨h.1, fun i hi => wpOp_mono (fun a' w' h' => wpAny_more f _ a' w' h') (h.2 i hi)⟩
theorem wpAny_le {f g : Nat} (hfg : f ≤ g) {listed : Array Bool} {a : Act} {w : World} (h : wpAny P .any ops Q f listed a w) : wpAny P .any ops Q g listed a w := by
  induction hfg with
  | refl => exact h
  | step _ ih => exact wpAny_more _ _ _ _ ih
theorem headInv_done {n : Nat} {listed : Array Bool} (hn : n ≤ ops.size) (inv : HeadInv .any ops n listed) (h : ∀ i, i < n → listed.getD i true = true) : listed = headDone n ops.size := by
  have hsz := inv.size
  apply Array.ext
  · simp [headDone, hsz]; omega
  · intro i h1 h2
    have hin : i < ops.size := by omega
    by_cases hi : i < n
    · have := h i hi
      simp [h1] at this
      simp [headDone, this, hi]
    · have := inv.tail i (by omega) hin
      simp [h1] at this
      rw [this]
      simp [headDone, Array.getElem_append, hi]
end

/-- A block, and a cell in it. -/
abbrev Cell := Nat × Nat
/-- What was there stays, but for cells of F. -/
structure Keeps (F : Cell → Prop) (w w' : World) : Prop where
  size : w.heap.size ≤ w'.heap.size
  block : ∀ k : Cell, k.1 < w.heap.size → ¬ F k → w'.cell? ⟨k.1, k.2, none⟩ = w.cell? ⟨k.1, k.2, none⟩
  whole : ∀ b, b < w.heap.size → (∀ o, ¬ F (b, o)) → w'.heap[b]? = w.heap[b]?
theorem Keeps.refl (F : Cell → Prop) (w : World) : Keeps F w w := ⟨Nat.le_refl _, fun _ _ _ => rfl, fun _ _ _ => rfl⟩
theorem Keeps.of {F : Cell → Prop} {w w' : World} (h : Below w.heap.size w w') : Keeps F w w' := ⟨h.size, fun k hk _ => h.cell (p := ⟨k.1, k.2, none⟩) hk, fun b hb _ => h.block b hb⟩
theorem Keeps.cell {F : Cell → Prop} {w w' : World} (h : Keeps F w w') {b o : Nat} (h1 : b < w.heap.size) (h2 : ¬ F (b, o)) : w'.cell? ⟨b, o, none⟩ = w.cell? ⟨b, o, none⟩ := h.block (b, o) h1 h2

/-- What is known of a value in a world, off the blocks of F: it stays true where only these are written, and where memory is added. -/
structure Sym where
  on : World → (Cell → Prop) → Value → Prop
  mono : ∀ {w w' : World} {F F' : Cell → Prop} {v : Value}, on w F v → Keeps F w w' → (∀ k : Cell, k.1 < w.heap.size → F' k → F k) → on w' F' v
def KnownV (k : Bool × Sym) (w : World) (F : Cell → Prop) (v : Value) : Prop := (k.1 = true → k.2.on w F v) ∧ (k.1 = false → v = undef)
theorem KnownV.mono {k : Bool × Sym} {w w' : World} {F F' : Cell → Prop} {v : Value} (h : KnownV k w F v) (hk : Keeps F w w') (hF : ∀ k : Cell, k.1 < w.heap.size → F' k → F k) : KnownV k w' F' v := ⟨fun e => k.2.mono (h.1 e) hk hF, h.2⟩
theorem KnownV.below {k : Bool × Sym} {w w' : World} {F : Cell → Prop} {v : Value} (h : KnownV k w F v) (hb : Below w.heap.size w w') : KnownV k w' F v := h.mono (.of hb) fun _ _ h => h
/-- The blocks of F lie in memory; if U, none of their cells is a number of kind u32. -/
structure FOK (U : Prop) (F : Cell → Prop) (w : World) : Prop where
  lt : ∀ k, F k → k.1 < w.heap.size
  nou : U → ∀ k, F k → ∀ (o : Nat) (x : Int), w.cell? ⟨k.1, o, none⟩ ≠ some (.int .u32 x)
theorem FOK.below {U : Prop} {F : Cell → Prop} {w w' : World} (h : FOK U F w) (hb : Below w.heap.size w w') : FOK U F w' :=
  ⟨fun k hk => Nat.lt_of_lt_of_le (h.lt k hk) hb.size, fun u k hk o x => by rw [hb.cell (p := ⟨k.1, o, none⟩) (h.lt k hk)]; exact h.nou u k hk o x⟩
theorem FOK.sub {U : Prop} {F F' : Cell → Prop} {w : World} (h : FOK U F w) (hF : ∀ k : Cell, F' k → F k) : FOK U F' w := ⟨fun k hk => h.lt k (hF k hk), fun u k hk => h.nou u k (hF k hk)⟩

abbrev Env := List (Nat × Bool × Sym)
def SlotOK (e : Env) (F : Cell → Prop) (a : Act) (w : World) (s : Nat) : Prop := ∀ k, e.lookup s = some k → KnownV k w F (a.tmps.getD s undef)
/-- Where a walk stands. -/
structure StE (U : Prop) (N : Nat) (e : Env) (F : Cell → Prop) (a : Act) (w : World) (Df : List Deferred := []) : Prop where
  size : a.tmps.size = N
  defers : a.defers = Df
  fok : FOK U F w
  known : ∀ s, SlotOK e F a w s
section
variable {U : Prop} {N : Nat} {e : Env} {F : Cell → Prop} {a : Act} {w w' : World}
theorem StE.mono (h : StE U N e F a w Df) (hb : Below w.heap.size w w') : StE U N e F a w' Df := ⟨h.size, h.defers, h.fok.below hb, fun s k hk => (h.known s k hk).below hb⟩
theorem StE.get {y : Sym} (h : StE U N e F a w Df) (s : Nat) (hk : e.lookup s = some (true, y)) : y.on w F (a.tmps.getD s undef) := (h.known s _ hk).1 rfl
/-- Fewer slots, or the same said otherwise. -/
def SubE (e : Env) : Env → Prop
  | [] => True
  | (s, k) :: t => e.lookup s = some k ∧ SubE e t
theorem subE_at {e : Env} : ∀ {e' : Env}, SubE e e' → ∀ s k, e'.lookup s = some k → e.lookup s = some k
  | (s, k) :: t, h, s', k', h' => by
    rw [List.lookup_cons] at h'
    cases hs : s' == s with
    | true => rw [hs] at h'; simp at h' hs; subst hs h'; exact h.1
    | false => rw [hs] at h'; exact subE_at h.2 s' k' h'
theorem StE.to (h : StE U N e F a w Df) (e' : Env) (hs : SubE e e') : StE U N e' F a w Df := ⟨h.size, h.defers, h.fok, fun s k hk => h.known s k (subE_at hs s k hk)⟩
theorem StE.put {d : Nat} {k : Bool × Sym} {v : Value} (h : StE U N e F a w Df) (hb : Below w.heap.size w w') (hd : d < N) (hv : KnownV k w' F v) : StE U N ((d, k) :: e) F (a.put (some d) v) w' Df := by
  refine ⟨by simp [Act.put, h.size], h.defers, h.fok.below hb, fun s k' hk => ?_⟩
  rw [List.lookup_cons] at hk
  cases hs : s == d with
  | true =>
    rw [hs] at hk; simp at hk hs; subst hs hk
    have : (a.put (some s) v).tmps.getD s undef = v := by simp [Act.put, h.size, hd]
    rw [this]
    exact hv
  | false =>
    rw [hs] at hk
    have hne : d ≠ s := by rintro rfl; simp at hs
    have : (a.put (some d) v).tmps.getD s undef = a.tmps.getD s undef := by simp only [Act.put, Array.getD_eq_getD_getElem?, Array.getElem?_setIfInBounds_ne hne]
    rw [this]
    exact (h.known s k' hk).below hb
/-- One slot is known otherwise. -/
theorem StE.more {y : Sym} (h : StE U N e F a w Df) (s : Nat) (hv : y.on w F (a.tmps.getD s undef)) : StE U N ((s, true, y) :: e) F a w Df := by
  refine ⟨h.size, h.defers, h.fok, fun s' k' hk => ?_⟩
  rw [List.lookup_cons] at hk
  cases hs : s' == s with
  | true => rw [hs] at hk; simp at hk hs; subst hs hk; exact ⟨fun _ => hv, (fun e => by cases e)⟩
  | false => rw [hs] at hk; exact h.known s' k' hk
theorem stE_nil (h1 : a.tmps.size = N) (h2 : a.defers = Df) (h3 : FOK U F w) : StE U N [] F a w Df := ⟨h1, h2, h3, fun s k hk => by cases hk⟩
/-- Blocks of F are written. -/
theorem StE.wrote (h : StE U N e F a w Df) (hk : Keeps F w w') (hF : FOK U F w') : StE U N e F a w' Df := ⟨h.size, h.defers, hF, fun s k hs => (h.known s k hs).mono hk fun _ _ h => h⟩
/-- Fewer blocks are written from now on. -/
theorem StE.less {F' : Cell → Prop} (h : StE U N e F a w Df) (hF : ∀ k : Cell, F' k → F k) : StE U N e F' a w Df := ⟨h.size, h.defers, h.fok.sub hF, fun s k hs => (h.known s k hs).mono (.refl _ _) fun k _ h => hF k h⟩
end

def slotsOf (x : Operand) : List Nat := match x with | .tmp t => [t] | _ => []
def guardSlots (ops : Array Oper) (o : Oper) : List Nat := match o.guard with | none => [] | some (g, _) => ((ops[g]?).bind (·.dst)).toList
def usesOf (ops : Array Oper) (o : Oper) : List Nat := guardSlots ops o ++ o.op.operands.toList.flatMap slotsOf
def dstsOf (l : List Oper) : List Nat := l.flatMap fun o => o.dst.toList
/-- Edges point back; each head operation has a slot of its own, in range, not among those known; what it uses is known, or is the slot of an operation that it follows. -/
def flowB (ops : Array Oper) (D : List Nat) (n N : Nat) (ms : List Nat) : Bool :=
  decide (n ≤ ops.size) && backB ops && (n == ops.size || (Region.sinkB .any ops n && Region.chainB .any ops n && Region.seqB .any ops (ops.size - n) n (headDone n ops.size))) &&
  (List.range n).all fun i => (ops[i]?).any fun o =>
    (usesOf ops o).all (fun s => D.contains s || o.after.any fun e => Region.binds .any e && (ops[e.on]?).bind (·.dst) == some s) &&
    if ms.contains i then o.dst.isNone && o.guard.isNone else (o.dst).any fun d => decide (d < N) && !D.contains d && (List.range n).all fun j => j == i || (ops[j]?).bind (·.dst) != some d

/-- The variables that a region makes: their slots, their types, what is in them. -/
abbrev Made := List (Nat × TypeId × Array Value)
section
variable {U : Prop} {P : Program} {ops : Array Oper} {Q : Exit → Act → World → Prop} {K : Nat → Bool × Sym} {al : Made} {N : Nat}

/-- What an operation leaves. -/
def Left (al : Made) (k : Bool × Sym) (F : Cell → Prop) (w w' : World) (d : Nat) (v : Value) : Prop :=
  match al.lookup d with
  | none => KnownV k w' F v
  | some (T, z) => v = .pointer (some ⟨w.heap.size, 0, none⟩) ∧ Blk w' w.heap.size T z ∧ w.heap.size < w'.heap.size ∧ (U → ∀ (i : Nat) (x : Int), z[i]? ≠ some (.int .u32 x))
/-- An operation pays. -/
def OpOK (U : Prop) (P : Program) (ops : Array Oper) (Q : Exit → Act → World → Prop) (K : Nat → Bool × Sym) (al : Made) (N : Nat) (o : Oper) : Prop :=
  ∀ (a : Act) (w : World) (F : Cell → Prop), a.tmps.size = N → FOK U F w → (∀ s ∈ usesOf ops o, KnownV (K s) w F (a.tmps.getD s undef)) → ∀ R : Act → World → Prop,
    (∀ v w', Below w.heap.size w w' → (∀ d, o.dst = some d → Left (U := U) al (K d) F w w' d v) → R (a.put o.dst v) w') →
    if Region.wanted o (yielded ops a.tmps) then o.wp P a w R Q else R (a.put o.dst undef) w
def AllOK (U : Prop) (P : Program) (ops : Array Oper) (Q : Exit → Act → World → Prop) (K : Nat → Bool × Sym) (al : Made) (N : Nat) : List Oper → Prop
  | [] => True
  | o :: t => OpOK U P ops Q K al N o ∧ AllOK U P ops Q K al N t
theorem allOK_at : ∀ {l : List Oper}, AllOK U P ops Q K al N l → ∀ (i : Nat) (o : Oper), l[i]? = some o → OpOK U P ops Q K al N o
  | [], _, i, o, h => by simp at h
  | x :: t, hl, 0, o, h => by simp at h; subst h; exact hl.1
  | x :: t, hl, i + 1, o, h => allOK_at hl.2 i o (by simpa using h)

structure FlowB (ops : Array Oper) (D : List Nat) (n N : Nat) (ms : List Nat) : Prop where
  le : n ≤ ops.size
  back : backB ops = true
  tail : n = ops.size ∨ (Region.sinkB .any ops n = true ∧ Region.chainB .any ops n = true ∧ Region.seqB .any ops (ops.size - n) n (headDone n ops.size) = true)
  uses : ∀ i o, i < n → ops[i]? = some o → ∀ s ∈ usesOf ops o, s ∈ D ∨ ∃ e ∈ o.after, Region.binds .any e = true ∧ ∃ oj, ops[e.on]? = some oj ∧ oj.dst = some s
  dst : ∀ i o, i < n → i ∉ ms → ops[i]? = some o → ∃ d, o.dst = some d ∧ d < N ∧ d ∉ D
  sp : ∀ i o, i < n → i ∈ ms → ops[i]? = some o → o.dst = none ∧ o.guard = none
  own : ∀ i o d j o', i < n → ops[i]? = some o → o.dst = some d → j < n → ops[j]? = some o' → o'.dst = some d → j = i
theorem flowB_iff {D : List Nat} {n : Nat} {ms : List Nat} (h : flowB ops D n N ms = true) : FlowB ops D n N ms := by
  unfold flowB at h
  simp only [Bool.and_eq_true, decide_eq_true_eq, Bool.or_eq_true, beq_iff_eq, List.all_eq_true, List.mem_range] at h
  obtain ⟨⟨⟨h1, h2⟩, h3⟩, h4⟩ := h
  have each : ∀ i o, i < n → ops[i]? = some o → (∀ s ∈ usesOf ops o, s ∈ D ∨ ∃ e ∈ o.after, Region.binds .any e = true ∧ ∃ oj, ops[e.on]? = some oj ∧ oj.dst = some s) ∧ (i ∉ ms → ∃ d, o.dst = some d ∧ d < N ∧ d ∉ D ∧ ∀ j o', j < n → ops[j]? = some o' → o'.dst = some d → j = i) ∧ (i ∈ ms → o.dst = none ∧ o.guard = none) := by
    intro i o hi ho
    have h5 := h4 i hi
    rw [ho] at h5
    simp only [Option.any_some, Bool.and_eq_true, List.all_eq_true] at h5
    obtain ⟨h5, h6⟩ := h5
    refine ⟨fun s hs => ?_, fun him => ?_, fun him => ?_⟩
    · have h7 := h5 s hs
      simp only [Bool.or_eq_true, List.contains_iff_mem, Array.any_eq_true', Bool.and_eq_true, beq_iff_eq] at h7
      rcases h7 with h7 | ⟨e, he, hb, h7⟩
      · exact .inl h7
      · obtain ⟨oj, h8, h9⟩ := Option.bind_eq_some_iff.1 h7
        exact .inr ⟨e, he, hb, oj, h8, h9⟩
    · rw [if_neg (by simpa [List.contains_iff_mem] using him)] at h6
      cases hd : o.dst with
      | none => rw [hd] at h6; simp at h6
      | some d =>
        rw [hd] at h6
        simp only [Option.any_some, Bool.and_eq_true, decide_eq_true_eq, Bool.not_eq_true', List.all_eq_true, List.mem_range, Bool.or_eq_true, beq_iff_eq, bne_iff_ne] at h6
        obtain ⟨⟨h6, h7⟩, h8⟩ := h6
        refine ⟨d, rfl, h6, fun hc => ?_, fun j o' hj hoj hdj => ?_⟩
        · rw [List.contains_iff_mem.2 hc] at h7; cases h7
        · rcases h8 j hj with h9 | h9
          · exact h9
          · exact absurd (by rw [hoj]; exact hdj) h9
    · rw [if_pos (by simpa [List.contains_iff_mem] using him)] at h6
      simpa using h6
  refine ⟨h1, h2, h3.imp id (fun h => ⟨h.1.1, h.1.2, h.2⟩), fun i o hi ho => (each i o hi ho).1, fun i o hi him ho => ?_, fun i o hi him ho => (each i o hi ho).2.2 him, fun i o d j o' hi ho hd hj ho' hd' => ?_⟩
  · obtain ⟨d, e1, e2, e3, _⟩ := (each i o hi ho).2.1 him
    exact ⟨d, e1, e2, e3⟩
  · have him : i ∉ ms := fun e => by
      have := ((each i o hi ho).2.2 e).1
      rw [hd] at this; cases this
    obtain ⟨d2, e1, _, _, e4⟩ := (each i o hi ho).2.1 him
    rw [hd] at e1; cases e1
    exact e4 j o' hj ho' hd'

/-- One store into a block of one's own among them: what holds ahead of it, and behind it. -/
structure Spec1 (U : Prop) where
  m : Nat
  g : Option Nat
  B : World → Prop
  G : World → Prop
  keepB : ∀ {w w' : World}, B w → Below w.heap.size w w' → B w'
  keepG : ∀ {w w' : World}, G w → Below w.heap.size w w' → G w'
/-- There is none. -/
def Spec1.no (n : Nat) : Spec1 U := ⟨n, none, fun _ => True, fun _ => True, fun _ _ => True.intro, fun _ _ => True.intro⟩
def SpOK (P : Program) (ops : Array Oper) (Q : Exit → Act → World → Prop) (K : Nat → Bool × Sym) (N : Nat) (F : Cell → Prop) (S : Spec1 U) (o : Oper) : Prop :=
  ∀ (a : Act) (w : World) (F' : Cell → Prop), a.tmps.size = N → FOK U F' w → (∀ k : Cell, F k → F' k) → (∀ s ∈ usesOf ops o, KnownV (K s) w F' (a.tmps.getD s undef)) → S.B w → ∀ R : Act → World → Prop,
    (∀ w', w.grownBy w' S.g → w'.heap.size = w.heap.size → Keeps F' w w' → FOK U F' w' → S.G w' → R a w') → o.wp P a w R Q

/-- F, and these. -/
def Also (F : Cell → Prop) (L : List Nat) : Cell → Prop := fun k => F k ∨ k.1 ∈ L
/-- Stores into variables that the region makes: the operation, the variable's slot, the value's, what is known of it. -/
abbrev Stos := List (Nat × Nat × Nat × Sym)
def Vals (y : Sym) (n : Nat) : Prop := ∀ {w : World} {F : Cell → Prop} {v : Value}, y.on w F v → ∃ cs : Array Value, v = .agg cs ∧ cs.size = n ∧ ∀ u ∈ cs.toList, u.oneCell' = true
structure StoOK (U : Prop) (P : Program) (ops : Array Oper) (K : Nat → Bool × Sym) (al : Made) (D : List Nat) (e : Nat × Nat × Nat × Sym) (o : Oper) : Prop where
  ex : ∃ (T' T : TypeId) (z : Array Value), o.op = .store T' (.tmp e.2.1) (.tmp e.2.2.1) ∧ (P.info? T').map (·.size) = some z.size ∧ al.lookup e.2.1 = some (T, z) ∧ Vals e.2.2.2 z.size
  val : K e.2.2.1 = (true, e.2.2.2)
  notD : e.2.1 ∉ D
  notA : al.lookup e.2.2.1 = none
  nou : U → ∀ {w : World} {F : Cell → Prop} {cs : Array Value}, e.2.2.2.on w F (.agg cs) → ∀ (i : Nat) (x : Int), cs[i]? ≠ some (.int .u32 x)
structure FlowInv (U : Prop) (ops : Array Oper) (K : Nat → Bool × Sym) (al : Made) (D : List Nat) (n N : Nat) (S : Spec1 U) (st : Stos) (w0 : World) (F : Cell → Prop) (L : List Nat) (listed : Array Bool) (a : Act) (w : World) (Df : List Deferred) : Prop where
  size : a.tmps.size = N
  defers : a.defers = Df
  grown : w0.grownBy w S.g
  ahead : S.m < n → listed.getD S.m true = false → S.B w
  behind : S.m < n → listed.getD S.m true = true → S.G w
  fok : FOK U (Also F L) w
  new : ∀ g ∈ L, w0.heap.size ≤ g
  env : ∀ s ∈ D, KnownV (K s) w (Also F L) (a.tmps.getD s undef)
  head : ∀ i o d, i < n → listed.getD i true = true → ops[i]? = some o → o.dst = some d → al.lookup d = none → KnownV (K d) w (Also F L) (a.tmps.getD d undef)
  made : ∀ i o d T z, i < n → listed.getD i true = true → ops[i]? = some o → o.dst = some d → al.lookup d = some (T, z) → ∃ g ∈ L, a.tmps.getD d undef = .pointer (some ⟨g, 0, none⟩) ∧ ∃ z', z'.size = z.size ∧ Blk w g T z' ∧ ((∀ e ∈ st, e.2.1 ≠ d) → z' = z)
  done : ∀ e ∈ st, e.1 < n → listed.getD e.1 true = true → ∃ i o p, i < n ∧ listed.getD i true = true ∧ ops[i]? = some o ∧ o.dst = some e.2.1 ∧ al.lookup e.2.1 = some p ∧ ∃ g ∈ L, a.tmps.getD e.2.1 undef = .pointer (some ⟨g, 0, none⟩) ∧ ∃ T cs, Blk w g T cs ∧ e.2.2.2.on w (Also F L) (.agg cs)
  apart : ∀ i o d j o' d' p p', i < n → listed.getD i true = true → ops[i]? = some o → o.dst = some d → al.lookup d = some p → j < n → listed.getD j true = true → ops[j]? = some o' → o'.dst = some d' → al.lookup d' = some p' → i ≠ j →
    a.tmps.getD d undef ≠ a.tmps.getD d' undef

theorem getD_put_eq {t : Array Value} {d : Nat} {v u : Value} (h : d < t.size) : (t.setIfInBounds d v).getD d u = v := by simp [h]
theorem getD_put_ne {t : Array Value} {d s : Nat} {v u : Value} (h : d ≠ s) : (t.setIfInBounds d v).getD s u = t.getD s u := by
  simp only [Array.getD_eq_getD_getElem?, Array.getElem?_setIfInBounds_ne h]

/-- One operation of the head runs. -/
theorem FlowInv.step {D : List Nat} {n : Nat} {S : Spec1 U} {st : Stos} {w0 w w' : World} {F : Cell → Prop} {L : List Nat} {listed : Array Bool} {a : Act} {i : Nat} {o : Oper} {v : Value} (fb : FlowB ops D n N (S.m :: st.map (·.1))) (inv : FlowInv U ops K al D n N S st w0 F L listed a w Df) (hi : i < n) (him : i ∉ S.m :: st.map (·.1)) (hun : listed.getD i true = false) (ho : ops[i]? = some o)
    (hb : Below w.heap.size w w') (hv : ∀ d, o.dst = some d → Left (U := U) al (K d) (Also F L) w w' d v) :
    ∃ L', FlowInv U ops K al D n N S st w0 F L' (listed.setIfInBounds i true) (a.put o.dst v) w' Df := by
  obtain ⟨d, hd, hdN, hdD⟩ := fb.dst i o hi him ho
  have hput : (a.put o.dst v).tmps = a.tmps.setIfInBounds d v := by rw [hd]; rfl
  have hdef : (a.put o.dst v).defers = a.defers := by rw [hd]; rfl
  have hds : d < a.tmps.size := by rw [inv.size]; exact hdN
  have other : ∀ s, s ≠ d → (a.put o.dst v).tmps.getD s undef = a.tmps.getD s undef := fun s hs => by rw [hput]; exact getD_put_ne (Ne.symm hs)
  have mine : (a.put o.dst v).tmps.getD d undef = v := by rw [hput]; exact getD_put_eq hds
  have old : ∀ j oj dj, j < n → j ≠ i → ops[j]? = some oj → oj.dst = some dj → dj ≠ d := fun j oj dj hj hne hoj hdj e => by
    subst e
    exact hne (fb.own i o dj j oj hi ho hd hj hoj hdj)
  have was : ∀ j, j ≠ i → (listed.setIfInBounds i true).getD j true = true → listed.getD j true = true := fun j hj h => by rwa [getD_set_ne true (Ne.symm hj)] at h
  have h0 : w0.grownBy w' S.g := only_trans inv.grown (only_of_below hb _)
  have him1 : i ≠ S.m := fun e => him (e ▸ List.mem_cons_self)
  have him2 : ∀ e ∈ st, i ≠ e.1 := fun e he h => him (List.mem_cons_of_mem _ (List.mem_map.2 ⟨e, he, h.symm⟩))
  have hSA : S.m < n → (listed.setIfInBounds i true).getD S.m true = false → S.B w' := fun hm hl => S.keepB (inv.ahead hm (by rwa [getD_set_ne true him1] at hl)) hb
  have hSG : S.m < n → (listed.setIfInBounds i true).getD S.m true = true → S.G w' := fun hm hl => S.keepG (inv.behind hm (by rwa [getD_set_ne true him1] at hl)) hb
  have hL := hv d hd
  unfold Left at hL
  have mono : ∀ (L' : List Nat), (∀ k, k < w.heap.size → k ∈ L' → k ∈ L) → ∀ k : Cell, k.1 < w.heap.size → Also F L' k → Also F L k := fun L' h k hk => Or.imp id (h k.1 hk)
  have hdone : ∀ L', (∀ g ∈ L, g ∈ L') → (∀ k : Cell, k.1 < w.heap.size → Also F L' k → Also F L k) → ∀ e ∈ st, e.1 < n → (listed.setIfInBounds i true).getD e.1 true = true → ∃ i' o p, i' < n ∧ (listed.setIfInBounds i true).getD i' true = true ∧ ops[i']? = some o ∧ o.dst = some e.2.1 ∧ al.lookup e.2.1 = some p ∧ ∃ g ∈ L', (a.put (some d) v).tmps.getD e.2.1 undef = .pointer (some ⟨g, 0, none⟩) ∧ ∃ T cs, Blk w' g T cs ∧ e.2.2.2.on w' (Also F L') (.agg cs) := by
    intro L' hL1 hL2 e he hen hl
    have hl0 : listed.getD e.1 true = true := was e.1 (fun h => him2 e he h.symm) hl
    obtain ⟨i', o', p, e1, e2, e3, e4, e5, g, e6, e7, T, cs, e8, e9⟩ := inv.done e he hen hl0
    have hne : i' ≠ i := fun h => by subst h; rw [hun] at e2; cases e2
    refine ⟨i', o', p, e1, by rw [getD_set_ne true (Ne.symm hne)]; exact e2, e3, e4, e5, g, hL1 g e6, ?_, T, cs, e8.below hb e8.lt, e.2.2.2.mono e9 (.of hb) hL2⟩
    have := other e.2.1 (old i' o' e.2.1 e1 hne e3 e4)
    rw [hd] at this
    rw [this]; exact e7
  rw [← hd] at hdone
  cases hal : al.lookup d with
  | none =>
    rw [hal] at hL
    refine ⟨L, by rw [hput]; simp [inv.size], hdef.trans inv.defers, h0, hSA, hSG, inv.fok.below hb, inv.new, fun s hs => ?_, fun j oj dj hj hl hoj hdj hA => ?_, fun j oj dj T z hj hl hoj hdj hA => ?_, hdone L (fun _ h => h) (fun _ _ h => h), fun j oj dj j' oj' dj' p p' hj hl hoj hdj hA hj' hl' hoj' hdj' hA' hne => ?_⟩
    · rw [other s (fun e => hdD (e ▸ hs))]
      exact (inv.env s hs).below hb
    · by_cases e : j = i
      · subst e
        obtain rfl := Option.some.inj (hoj.symm.trans ho)
        obtain rfl := Option.some.inj (hdj.symm.trans hd)
        rw [mine]
        exact hL
      · rw [other dj (old j oj dj hj e hoj hdj)]
        exact (inv.head j oj dj hj (was j e hl) hoj hdj hA).below hb
    · by_cases e : j = i
      · subst e
        obtain rfl := Option.some.inj (hoj.symm.trans ho)
        obtain rfl := Option.some.inj (hdj.symm.trans hd)
        rw [hal] at hA; cases hA
      · rw [other dj (old j oj dj hj e hoj hdj)]
        obtain ⟨g, h1, h2, z', h3, h4, h5⟩ := inv.made j oj dj T z hj (was j e hl) hoj hdj hA
        exact ⟨g, h1, h2, z', h3, h4.below hb h4.lt, h5⟩
    · have ne : ∀ j oj dj q, j < n → ops[j]? = some oj → oj.dst = some dj → al.lookup dj = some q → j ≠ i := fun j oj dj q hj hoj hdj hA e => by
        subst e
        obtain rfl := Option.some.inj (hoj.symm.trans ho)
        obtain rfl := Option.some.inj (hdj.symm.trans hd)
        rw [hal] at hA; cases hA
      have e1 := ne j oj dj p hj hoj hdj hA
      have e2 := ne j' oj' dj' p' hj' hoj' hdj' hA'
      rw [other dj (old j oj dj hj e1 hoj hdj), other dj' (old j' oj' dj' hj' e2 hoj' hdj')]
      exact inv.apart j oj dj j' oj' dj' p p' hj (was j e1 hl) hoj hdj hA hj' (was j' e2 hl') hoj' hdj' hA' hne
  | some q =>
    obtain ⟨T, z⟩ := q
    rw [hal] at hL
    obtain ⟨hL1, hL2, hL3, hL4⟩ := hL
    have hsub : ∀ k : Cell, k.1 < w.heap.size → Also F (w.heap.size :: L) k → Also F L k := mono _ fun k hk hm => by
      rcases List.mem_cons.1 hm with rfl | hm
      · omega
      · exact hm
    refine ⟨w.heap.size :: L, by rw [hput]; simp [inv.size], hdef.trans inv.defers, h0, hSA, hSG, ⟨fun k hk => ?_, fun u k hk ko x => ?_⟩, fun g hg => ?_, fun s hs => ?_, fun j oj dj hj hl hoj hdj hA => ?_, fun j oj dj T' z' hj hl hoj hdj hA => ?_, hdone _ (fun _ h => List.mem_cons_of_mem _ h) hsub, fun j oj dj j' oj' dj' p p' hj hl hoj hdj hA hj' hl' hoj' hdj' hA' hne => ?_⟩
    · rcases hk with hk | hk
      · exact (inv.fok.below hb).lt k (.inl hk)
      · rcases List.mem_cons.1 hk with e | hk
        · rw [e]; exact hL3
        · exact (inv.fok.below hb).lt k (.inr hk)
    · rcases hk with hk | hk
      · exact (inv.fok.below hb).nou u k (.inl hk) ko x
      · rcases List.mem_cons.1 hk with e | hk
        · rw [e, hL2.cell]; exact hL4 u ko x
        · exact (inv.fok.below hb).nou u k (.inr hk) ko x
    · rcases List.mem_cons.1 hg with rfl | hg
      · exact inv.grown.size
      · exact inv.new g hg
    · rw [other s (fun e => hdD (e ▸ hs))]
      exact (inv.env s hs).mono (.of hb) hsub
    · by_cases e : j = i
      · subst e
        obtain rfl := Option.some.inj (hoj.symm.trans ho)
        obtain rfl := Option.some.inj (hdj.symm.trans hd)
        rw [hal] at hA; cases hA
      · rw [other dj (old j oj dj hj e hoj hdj)]
        exact (inv.head j oj dj hj (was j e hl) hoj hdj hA).mono (.of hb) hsub
    · by_cases e : j = i
      · subst e
        obtain rfl := Option.some.inj (hoj.symm.trans ho)
        obtain rfl := Option.some.inj (hdj.symm.trans hd)
        rw [hal] at hA; cases hA
        rw [mine]
        exact ⟨w.heap.size, List.mem_cons_self, hL1, z, rfl, hL2, fun _ => rfl⟩
      · rw [other dj (old j oj dj hj e hoj hdj)]
        obtain ⟨g, h1, h2, z2, h3, h4, h5⟩ := inv.made j oj dj T' z' hj (was j e hl) hoj hdj hA
        exact ⟨g, List.mem_cons_of_mem _ h1, h2, z2, h3, h4.below hb h4.lt, h5⟩
    · have far : ∀ j oj dj q, j < n → j ≠ i → listed.getD j true = true → ops[j]? = some oj → oj.dst = some dj → al.lookup dj = some q → a.tmps.getD dj undef ≠ v := fun j oj dj q hj e hl hoj hdj hA => by
        obtain ⟨T', z'⟩ := q
        obtain ⟨g, h1, h2, z2, _, h3, _⟩ := inv.made j oj dj T' z' hj hl hoj hdj hA
        rw [h2, hL1]
        intro h; injection h with h; injection h with h; injection h with h
        have := h3.lt
        omega
      by_cases e : j = i
      · subst e
        obtain rfl := Option.some.inj (hoj.symm.trans ho)
        obtain rfl := Option.some.inj (hdj.symm.trans hd)
        have e' : j' ≠ j := Ne.symm hne
        rw [mine, other dj' (old j' oj' dj' hj' e' hoj' hdj')]
        exact (far j' oj' dj' p' hj' e' (was j' e' hl') hoj' hdj' hA').symm
      · by_cases e' : j' = i
        · subst e'
          obtain rfl := Option.some.inj (hoj'.symm.trans ho)
          obtain rfl := Option.some.inj (hdj'.symm.trans hd)
          rw [mine, other dj (old j oj dj hj e hoj hdj)]
          exact far j oj dj p hj e (was j e hl) hoj hdj hA
        · rw [other dj (old j oj dj hj e hoj hdj), other dj' (old j' oj' dj' hj' e' hoj' hdj')]
          exact inv.apart j oj dj j' oj' dj' p p' hj (was j e hl) hoj hdj hA hj' (was j' e' hl') hoj' hdj' hA' hne

/-- The store among them runs. -/
theorem FlowInv.stepS {D : List Nat} {n : Nat} {S : Spec1 U} {st : Stos} {w0 w w' : World} {F : Cell → Prop} {L : List Nat} {listed : Array Bool} {a : Act} {o : Oper} (fb : FlowB ops D n N (S.m :: st.map (·.1))) (hSt : ∀ e ∈ st, e.1 ≠ S.m) (hFS : ∀ g, S.g = some g → g < w0.heap.size) (inv : FlowInv U ops K al D n N S st w0 F L listed a w Df) (hi : S.m < n) (hsz : S.m < listed.size) (ho : ops[S.m]? = some o)
    (h1 : w.grownBy w' S.g) (h3 : Keeps (Also F L) w w') (h4 : FOK U (Also F L) w') (h5 : S.G w') :
    FlowInv U ops K al D n N S st w0 F L (listed.setIfInBounds S.m true) a w' Df := by
  have was : ∀ j, j ≠ S.m → (listed.setIfInBounds S.m true).getD j true = true → listed.getD j true = true := fun j hj h => by rwa [getD_set_ne true (Ne.symm hj)] at h
  have dn : ∀ j oj dj, ops[j]? = some oj → oj.dst = some dj → j ≠ S.m := fun j oj dj hoj hdj e => by
    subst e
    rw [ho] at hoj; cases hoj
    rw [(fb.sp S.m o hi List.mem_cons_self ho).1] at hdj; cases hdj
  refine ⟨inv.size, inv.defers, only_trans inv.grown h1, fun _ hl => ?_, fun _ _ => h5, h4, inv.new, fun s hs => (inv.env s hs).mono h3 fun _ _ h => h, fun j oj dj hj hl hoj hdj hA => (inv.head j oj dj hj (was j (dn j oj dj hoj hdj) hl) hoj hdj hA).mono h3 fun _ _ h => h, fun j oj dj T z hj hl hoj hdj hA => ?_, fun e he hen hl => ?_, fun j oj dj j' oj' dj' p p' hj hl hoj hdj hA hj' hl' hoj' hdj' hA' hne => inv.apart j oj dj j' oj' dj' p p' hj (was j (dn j oj dj hoj hdj) hl) hoj hdj hA hj' (was j' (dn j' oj' dj' hoj' hdj') hl') hoj' hdj' hA' hne⟩
  · simp [hsz] at hl
  · obtain ⟨g, e1, e2, z', e3, e4, e5⟩ := inv.made j oj dj T z hj (was j (dn j oj dj hoj hdj) hl) hoj hdj hA
    exact ⟨g, e1, e2, z', e3, (h1.block g e4.lt (fun e => by have := hFS g e.symm; have := inv.new g e1; omega)).trans e4, e5⟩
  · obtain ⟨i', o', p, e1, e2, e3, e4, e5, g, e6, e7, T, cs, e8, e9⟩ := inv.done e he hen (was e.1 (hSt e he) hl)
    refine ⟨i', o', p, e1, ?_, e3, e4, e5, g, e6, e7, T, cs, (h1.block g e8.lt (fun e => by have := hFS g e.symm; have := inv.new g e6; omega)).trans e8, e.2.2.2.mono e9 h3 fun _ _ h => h⟩
    rw [getD_set_ne true (Ne.symm (dn i' o' _ e3 e4))]; exact e2

/-- A store into a variable that the region made runs. -/
theorem FlowInv.stepV {D : List Nat} {n : Nat} {S : Spec1 U} {st : Stos} {w0 w : World} {F : Cell → Prop} {L : List Nat} {listed : Array Bool} {a : Act} {o : Oper} {e : Nat × Nat × Nat × Sym} {R : Act → World → Prop} (fb : FlowB ops D n N (S.m :: st.map (·.1))) (hnd : (st.map (·.2.1)).Nodup) (hnm : (st.map (·.1)).Nodup) (hno : st ≠ [] → (∀ w, S.B w) ∧ ∀ w, S.G w) (inv : FlowInv U ops K al D n N S st w0 F L listed a w Df) (he : e ∈ st) (hi : e.1 < n) (hsz : e.1 < listed.size) (ho : ops[e.1]? = some o) (hok : StoOK U P ops K al D e o)
    (hl : ∀ s ∈ usesOf ops o, s ∈ D ∨ ∃ i o', i < n ∧ listed.getD i true = true ∧ ops[i]? = some o' ∧ o'.dst = some s)
    (hR : ∀ w', FlowInv U ops K al D n N S st w0 F L (listed.setIfInBounds e.1 true) a w' Df → R (a.put o.dst undef) w') : o.wp P a w R Q := by
  obtain ⟨T', T, z, h1, h2, h3, h4⟩ := hok.ex
  have hem : e.1 ∈ S.m :: st.map (·.1) := List.mem_cons_of_mem _ (List.mem_map.2 ⟨e, he, rfl⟩)
  obtain ⟨hd0, _⟩ := fb.sp e.1 o hi hem ho
  have u1 : e.2.1 ∈ usesOf ops o := List.mem_append_right _ (by simp [h1, Op.operands, slotsOf])
  have u2 : e.2.2.1 ∈ usesOf ops o := List.mem_append_right _ (by simp [h1, Op.operands, slotsOf])
  obtain ⟨i0, o0, f1, f2, f3, f4⟩ := (hl _ u1).resolve_left hok.notD
  obtain ⟨g, g1, g2, z', g3, g4, _⟩ := inv.made i0 o0 e.2.1 T z f1 f2 f3 f4 h3
  have hv : e.2.2.2.on w (Also F L) (a.tmps.getD e.2.2.1 undef) := by
    have : KnownV (K e.2.2.1) w (Also F L) (a.tmps.getD e.2.2.1 undef) := by
      rcases hl _ u2 with h | ⟨j, oj, j1, j2, j3, j4⟩
      · exact inv.env _ h
      · exact inv.head j oj _ j1 j2 j3 j4 hok.notA
    rw [hok.val] at this
    exact this.1 rfl
  obtain ⟨cs, c1, c2, c3⟩ := h4 hv
  refine wp_store_row T' (.tmp e.2.1) (.tmp e.2.2.1) h1 g cs g2 c1 T z' g4 (by rw [h2, c2]) (by rw [g3, c2]) (by rw [Array.all_eq_true']; intro u hu; exact c3 u (by simpa using hu)) (hR _ ?_)
  have hB' : Blk (w.setRow g cs) g T cs := setRow_heap w g z' cs T (0, 0) g4
  have oth : ∀ k, k ≠ g → (w.setRow g cs).heap[k]? = w.heap[k]? := fun k hk => setRow_other w g k cs hk
  have hkp : Keeps (Also F L) w (w.setRow g cs) := ⟨by rw [size_setRow]; exact Nat.le_refl _, fun k _ hk => World.cell?_of_block (oth k.1 (fun h => hk (.inr (by rw [h]; exact g1)))), fun b _ hb => oth b (fun h => hb 0 (.inr (by rw [h]; exact g1)))⟩
  have was : ∀ j, j ≠ e.1 → (listed.setIfInBounds e.1 true).getD j true = true → listed.getD j true = true := fun j hj h => by rwa [getD_set_ne true (Ne.symm hj)] at h
  have dn : ∀ j oj dj, ops[j]? = some oj → oj.dst = some dj → j ≠ e.1 := fun j oj dj hoj hdj h => by
    subst h
    rw [ho] at hoj; cases hoj
    rw [hd0] at hdj; cases hdj
  have hnew := inv.new g g1
  have key : ∀ j oj dj p, j < n → listed.getD j true = true → ops[j]? = some oj → oj.dst = some dj → al.lookup dj = some p → ∀ g', a.tmps.getD dj undef = .pointer (some ⟨g', 0, none⟩) → dj ≠ e.2.1 → g' ≠ g := fun j oj dj p hj hlj hoj hdj hA g' hg' hne h => by
    have hij : j ≠ i0 := fun h => by
      subst h
      rw [f3] at hoj; cases hoj
      rw [f4] at hdj; cases hdj
      exact hne rfl
    refine inv.apart j oj dj i0 o0 e.2.1 p (T, z) hj hlj hoj hdj hA f1 f2 f3 f4 h3 hij ?_
    rw [hg', g2, h]
  refine ⟨inv.size, inv.defers, ⟨inv.grown.os, inv.grown.tape, inv.grown.output, by rw [size_setRow]; exact inv.grown.size, fun k hk hne => (oth k (by omega)).trans (inv.grown.block k hk hne)⟩, fun _ _ => ?_, fun _ _ => ?_, ⟨fun k hk => by rw [size_setRow]; exact inv.fok.lt k hk, fun u k hk ko x => ?_⟩, inv.new, fun s hs => (inv.env s hs).mono hkp fun _ _ h => h, fun j oj dj hj hlj hoj hdj hA => (inv.head j oj dj hj (was j (dn j oj dj hoj hdj) hlj) hoj hdj hA).mono hkp fun _ _ h => h, fun j oj dj T2 z2 hj hlj hoj hdj hA => ?_, fun e' he' hen' hl' => ?_, fun j oj dj j' oj' dj' p p' hj hlj hoj hdj hA hj' hl' hoj' hdj' hA' hne => inv.apart j oj dj j' oj' dj' p p' hj (was j (dn j oj dj hoj hdj) hlj) hoj hdj hA hj' (was j' (dn j' oj' dj' hoj' hdj') hl') hoj' hdj' hA' hne⟩
  · exact (hno (List.ne_nil_of_mem he)).1 _
  · exact (hno (List.ne_nil_of_mem he)).2 _
  · by_cases h : k.1 = g
    · rw [h, hB'.cell]
      exact hok.nou u (c1 ▸ hv) ko x
    · rw [show (w.setRow g cs).cell? ⟨k.1, ko, none⟩ = w.cell? ⟨k.1, ko, none⟩ from World.cell?_of_block (oth k.1 h)]
      exact inv.fok.nou u k hk ko x
  · obtain ⟨g', e1, e2, z3, e3, e4, e5⟩ := inv.made j oj dj T2 z2 hj (was j (dn j oj dj hoj hdj) hlj) hoj hdj hA
    by_cases h : dj = e.2.1
    · subst h
      obtain rfl : g' = g := by
        rw [g2] at e2
        injection e2 with e2; injection e2 with e2; injection e2 with e2
        exact e2.symm
      rw [h3] at hA; cases hA
      exact ⟨g', e1, e2, cs, by rw [c2], hB', fun hh => absurd rfl (hh e he)⟩
    · exact ⟨g', e1, e2, z3, e3, (oth g' (key j oj dj _ hj (was j (dn j oj dj hoj hdj) hlj) hoj hdj hA g' e2 h)).trans e4, e5⟩
  · by_cases h : e'.1 = e.1
    · have hee : e' = e := by
        have : ∀ (l : Stos), (l.map (·.1)).Nodup → e' ∈ l → e ∈ l → e' = e := by
          intro l
          induction l with
          | nil => intro _ h; cases h
          | cons x t ih =>
            intro hn h1 h2
            rw [List.map_cons, List.nodup_cons] at hn
            rcases List.mem_cons.1 h1 with rfl | k1 <;> rcases List.mem_cons.1 h2 with rfl | k2
            · rfl
            · exact absurd (by rw [h]; exact List.mem_map.2 ⟨_, k2, rfl⟩) hn.1
            · exact absurd (by rw [← h]; exact List.mem_map.2 ⟨_, k1, rfl⟩) hn.1
            · exact ih hn.2 k1 k2
        exact this st hnm he' he
      subst hee
      exact ⟨i0, o0, (T, z), f1, by rw [getD_set_ne true (Ne.symm (dn i0 o0 _ f3 f4))]; exact f2, f3, f4, h3, g, g1, g2, T, cs, hB', e'.2.2.2.mono (c1 ▸ hv) hkp fun _ _ h => h⟩
    · obtain ⟨i', o', p, e1, e2, e3, e4, e5, g', e6, e7, T2, cs2, e8, e9⟩ := inv.done e' he' hen' (was e'.1 h hl')
      have hne : e'.2.1 ≠ e.2.1 := fun hh => by
        have : ∀ (l : Stos), (l.map (·.2.1)).Nodup → e' ∈ l → e ∈ l → e' = e := by
          intro l
          induction l with
          | nil => intro _ h; cases h
          | cons x t ih =>
            intro hn h1 h2
            rw [List.map_cons, List.nodup_cons] at hn
            rcases List.mem_cons.1 h1 with rfl | k1 <;> rcases List.mem_cons.1 h2 with rfl | k2
            · rfl
            · exact absurd (by rw [hh]; exact List.mem_map.2 ⟨_, k2, rfl⟩) hn.1
            · exact absurd (by rw [← hh]; exact List.mem_map.2 ⟨_, k1, rfl⟩) hn.1
            · exact ih hn.2 k1 k2
        exact h (by rw [this st hnd he' he])
      exact ⟨i', o', p, e1, by rw [getD_set_ne true (Ne.symm (dn i' o' _ e3 e4))]; exact e2, e3, e4, e5, g', e6, e7, T2, cs2, (oth g' (key i' o' _ p e1 e2 e3 e4 e5 g' e7 hne)).trans e8, e'.2.2.2.mono e9 hkp fun _ _ h => h⟩

theorem FlowInv.congr {D : List Nat} {n : Nat} {S : Spec1 U} {st : Stos} {w0 w : World} {F : Cell → Prop} {L : List Nat} {listed listed' : Array Bool} {a : Act} (inv : FlowInv U ops K al D n N S st w0 F L listed a w Df) (h : ∀ i, i < n → (listed'.getD i true = true ↔ listed.getD i true = true)) : FlowInv U ops K al D n N S st w0 F L listed' a w Df :=
  ⟨inv.size, inv.defers, inv.grown, fun hm hl => inv.ahead hm (by cases hg : listed.getD S.m true with | false => rfl | true => rw [(h _ hm).2 hg] at hl; cases hl), fun hm hl => inv.behind hm ((h _ hm).1 hl), inv.fok, inv.new, inv.env, fun i o d hi hl => inv.head i o d hi ((h i hi).1 hl), fun i o d T z hi hl => inv.made i o d T z hi ((h i hi).1 hl), fun e he hen hl => (by obtain ⟨i, o, p, e1, e2, r⟩ := inv.done e he hen ((h _ hen).1 hl); exact ⟨i, o, p, e1, (h i e1).2 e2, r⟩), fun i o d j o' d' p p' hi hl ho hd hA hj hl' => inv.apart i o d j o' d' p p' hi ((h i hi).1 hl) ho hd hA hj ((h j hj).1 hl')⟩

/-- What holds behind the head. -/
structure Flowed (U : Prop) (ops : Array Oper) (K : Nat → Bool × Sym) (al : Made) (D : List Nat) (n N : Nat) (S : Spec1 U) (st : Stos) (w0 : World) (F : Cell → Prop) (L : List Nat) (a : Act) (w : World) (Df : List Deferred) : Prop where
  size : a.tmps.size = N
  defers : a.defers = Df
  grown : w0.grownBy w S.g
  behind : S.m < n → S.G w
  fok : FOK U (Also F L) w
  new : ∀ g ∈ L, w0.heap.size ≤ g
  env : ∀ s ∈ D, KnownV (K s) w (Also F L) (a.tmps.getD s undef)
  head : ∀ i o d, i < n → ops[i]? = some o → o.dst = some d → al.lookup d = none → KnownV (K d) w (Also F L) (a.tmps.getD d undef)
  made : ∀ i o d T z, i < n → ops[i]? = some o → o.dst = some d → al.lookup d = some (T, z) → ∃ g ∈ L, a.tmps.getD d undef = .pointer (some ⟨g, 0, none⟩) ∧ ∃ z', z'.size = z.size ∧ Blk w g T z' ∧ ((∀ e ∈ st, e.2.1 ≠ d) → z' = z)
  done : ∀ e ∈ st, e.1 < n → ∃ g ∈ L, a.tmps.getD e.2.1 undef = .pointer (some ⟨g, 0, none⟩) ∧ ∃ T cs, Blk w g T cs ∧ e.2.2.2.on w (Also F L) (.agg cs)
  apart : ∀ i o d j o' d' p p', i < n → ops[i]? = some o → o.dst = some d → al.lookup d = some p → j < n → ops[j]? = some o' → o'.dst = some d' → al.lookup d' = some p' → i ≠ j → a.tmps.getD d undef ≠ a.tmps.getD d' undef
theorem FlowInv.all {D : List Nat} {n : Nat} {S : Spec1 U} {st : Stos} {w0 w : World} {F : Cell → Prop} {L : List Nat} {listed : Array Bool} {a : Act} (inv : FlowInv U ops K al D n N S st w0 F L listed a w Df) (h : ∀ i, i < n → listed.getD i true = true) : Flowed U ops K al D n N S st w0 F L a w Df :=
  ⟨inv.size, inv.defers, inv.grown, fun hm => inv.behind hm (h _ hm), inv.fok, inv.new, inv.env, fun i o d hi => inv.head i o d hi (h i hi), fun i o d T z hi => inv.made i o d T z hi (h i hi), fun e he hen => (by obtain ⟨_, _, _, _, _, _, _, _, r⟩ := inv.done e he hen (h _ hen); exact r), fun i o d j o' d' p p' hi ho hd hA hj => inv.apart i o d j o' d' p p' hi (h i hi) ho hd hA hj (h j hj)⟩

theorem wpAny_flow {l : List Oper} {n : Nat} {D : List Nat} {S : Spec1 U} {st : Stos} {w0 : World} {F : Cell → Prop} (hl : ops = l.toArray) (fb : FlowB ops D n N (S.m :: st.map (·.1))) (hops : ∀ i o, i < n → i ∉ S.m :: st.map (·.1) → ops[i]? = some o → OpOK U P ops Q K al N o) (hsp : ∀ o, S.m < n → ops[S.m]? = some o → SpOK P ops Q K N F S o) (hFS : ∀ g, S.g = some g → g < w0.heap.size) (hst : ∀ e ∈ st, e.1 < n → ∀ o, ops[e.1]? = some o → StoOK U P ops K al D e o) (hSt : ∀ e ∈ st, e.1 ≠ S.m) (hnd : (st.map (·.2.1)).Nodup) (hnm : (st.map (·.1)).Nodup) (hno : st ≠ [] → (∀ w, S.B w) ∧ ∀ w, S.G w)
    (huse : ∀ i o, i < n → i ∉ st.map (·.1) → ops[i]? = some o → ∀ s ∈ usesOf ops o, al.lookup s = none)
    (hQ : ∀ a w L, Flowed U ops K al D n N S st w0 F L a w Df → wpList P ops Q (l.drop n) a w) :
    ∀ (k : Nat) (listed : Array Bool) (a : Act) (w : World) (L : List Nat), todo n listed ≤ k → HeadInv .any ops n listed → FlowInv U ops K al D n N S st w0 F L listed a w Df → wpAny P .any ops Q (k + (ops.size - n)) listed a w := by
  have hn := fb.le
  intro k
  induction k with
  | zero =>
    intro listed a w L hk inv hI
    have hall := todo_zero (Nat.le_zero.1 hk)
    have he := headInv_done hn inv hall
    have hF := hQ a w L (hI.all hall)
    subst he
    have hlen : (l.drop n).length = ops.size - n := by rw [List.length_drop, hl]; rfl
    rcases fb.tail with e | ⟨_, _, hseq⟩
    · have hz : ops.size - n = 0 := by omega
      rw [hz]
      have hd : l.drop n = [] := List.eq_nil_of_length_eq_zero (by omega)
      rw [hd] at hF
      refine ⟨?_, hF⟩
      unfold Region.ready
      rw [List.filter_eq_nil_iff]
      intro i hi
      have := hall i (by rw [List.mem_range] at hi; omega)
      simp only [this]
      simp
    · rw [Nat.zero_add, ← hlen]
      exact wpAny_of_seq (l.drop n) n _ _ _ (fun j => by rw [hl]; simp) (by rw [hlen]; exact hseq) hF
  | succ k ih =>
    intro listed a w L hk inv hI
    by_cases h0 : todo n listed ≤ k
    · exact wpAny_le (by omega) (ih listed a w L h0 inv hI)
    · have hex : ∃ i, i < n ∧ listed.getD i true = false := by
        have hp : 0 < todo n listed := by omega
        obtain ⟨i, hi⟩ := List.exists_mem_of_length_pos hp
        obtain ⟨h1, h2⟩ := List.mem_filter.1 hi
        exact ⟨i, List.mem_range.1 h1, by simpa using h2⟩
      rw [show k + 1 + (ops.size - n) = (k + (ops.size - n)) + 1 by omega]
      obtain ⟨i0, hi0, hun0⟩ := hex
      refine ⟨fun hnil => ?_, fun i hi => ?_⟩
      · exfalso
        have least : ∀ d i, i ≤ d → i < n → listed.getD i true = false → ∃ j, j < n ∧ listed.getD j true = false ∧ ∀ t, t < j → listed.getD t true = true := by
          intro d
          induction d with
          | zero =>
            intro i hid hin hun
            obtain rfl : i = 0 := by omega
            exact ⟨0, hin, hun, fun t ht => absurd ht (by omega)⟩
          | succ d ihd =>
            intro i hid hin hun
            by_cases hh : ∃ t, t < i ∧ listed.getD t true = false
            · obtain ⟨t, ht, hut⟩ := hh
              exact ihd t (by omega) (by omega) hut
            · refine ⟨i, hin, hun, fun t ht => ?_⟩
              cases hg : listed.getD t true with
              | true => rfl
              | false => exact absurd ⟨t, ht, hg⟩ hh
        obtain ⟨j, hjn, hju, hjl⟩ := least i0 i0 (Nat.le_refl _) hi0 hun0
        have hjs : j < ops.size := by omega
        have hj : j ∈ Region.ready .any ops listed := by
          refine mem_ready.2 ⟨hju, ops[j], Array.getElem?_eq_getElem hjs, fun e he hbn0 => ?_⟩
          have hb := List.all_eq_true.1 fb.back j (List.mem_range.2 hjs)
          simp only [Array.getElem?_eq_getElem hjs, Option.all_some] at hb
          have he' := Array.all_eq_true'.1 hb e he
          have hlt : e.on < j := by simpa [hbn0] using he'
          have h1 := hjl e.on hlt
          have hsz := inv.size
          have hes : e.on < listed.size := by omega
          simp [hes] at h1 ⊢
          exact h1
        rw [hnil] at hj
        cases hj
      · have hin : i < n := by
          rcases Nat.lt_or_ge i n with h | h
          · exact h
          · rcases fb.tail with e | ⟨hs, hc, _⟩
            · obtain ⟨_, o, ho, _⟩ := mem_ready.1 hi
              have : i < ops.size := (Array.getElem?_eq_some_iff.1 ho).1
              omega
            · have hlt : n < ops.size := by
                obtain ⟨_, o, ho, _⟩ := mem_ready.1 hi
                have : i < ops.size := (Array.getElem?_eq_some_iff.1 ho).1
                omega
              exact absurd hi (tail_waits hs hc hlt inv _ i0 rfl hi0 hun0 i h)
        obtain ⟨hun, o, ho, hall⟩ := mem_ready.1 hi
        have hnow : ∀ s ∈ usesOf ops o, s ∈ D ∨ ∃ i' o', i' < n ∧ listed.getD i' true = true ∧ ops[i']? = some o' ∧ o'.dst = some s := fun s hs => by
          rcases fb.uses i o hin ho s hs with h | ⟨e, he, hbn, oj, hoj, hdj⟩
          · exact .inl h
          · have h1 := hall e he hbn
            have hs' : i < ops.size := (Array.getElem?_eq_some_iff.1 ho).1
            have hb := List.all_eq_true.1 fb.back i (List.mem_range.2 hs')
            simp only [ho, Option.all_some] at hb
            have he' := Array.all_eq_true'.1 hb e he
            have hlt : e.on < i := by simpa [hbn] using he'
            refine .inr ⟨e.on, oj, by omega, ?_, hoj, hdj⟩
            have hsz := inv.size
            have hes : e.on < listed.size := by omega
            simp [hes] at h1 ⊢
            exact h1
        have hsz2 : i < listed.size := by
          rcases Nat.lt_or_ge i listed.size with h | h
          · exact h
          · simp [Array.getElem?_eq_none h] at hun
        by_cases hsto : i ∈ st.map (·.1)
        · obtain ⟨e, he, rfl⟩ := List.mem_map.1 hsto
          obtain ⟨hd0, hg0⟩ := fb.sp e.1 o hin (List.mem_cons_of_mem _ hsto) ho
          have H := hI.stepV (R := wpAny P .any ops Q (k + (ops.size - n)) (listed.setIfInBounds e.1 true)) (Q := Q) fb hnd hnm hno he hin hsz2 ho (hst e he hin o ho) hnow fun w' hI' => by
            rw [hd0]
            exact ih _ _ _ L (by have := todo_set hin hun; omega) (inv.set hi hin) hI'
          unfold wpOp
          rw [ho]
          show if _ then _ else _
          rw [if_pos (by simp [Region.wanted, hg0])]
          exact .inl H
        have hknow : ∀ s ∈ usesOf ops o, KnownV (K s) w (Also F L) (a.tmps.getD s undef) := fun s hs => by
          rcases hnow s hs with h | ⟨i', o', e1, e2, e3, e4⟩
          · exact hI.env s h
          · exact hI.head i' o' s e1 e2 e3 e4 (huse i o hin hsto ho s hs)
        by_cases him : i = S.m
        · subst him
          obtain ⟨hd0, hg0⟩ := fb.sp S.m o hin List.mem_cons_self ho
          have H := hsp o hin ho a w (Also F L) hI.size hI.fok (fun k hk => .inl hk) hknow (hI.ahead hin hun) (wpAny P .any ops Q (k + (ops.size - n)) (listed.setIfInBounds S.m true)) (fun w' h1 h2 h3 h4 h5 =>
            ih _ _ _ L (by have := todo_set hin hun; omega) (inv.set hi hin) (hI.stepS fb hSt hFS hin hsz2 ho h1 h3 h4 h5))
          unfold wpOp
          rw [ho]
          show if _ then _ else _
          rw [if_pos (by simp [Region.wanted, hg0])]
          exact .inl H
        · have hin2 : i ∉ S.m :: st.map (·.1) := fun h => by
            rcases List.mem_cons.1 h with h | h
            · exact him h
            · exact hsto h
          have H := hops i o hin hin2 ho a w (Also F L) hI.size hI.fok hknow (wpAny P .any ops Q (k + (ops.size - n)) (listed.setIfInBounds i true)) (fun v w' hb hv => by
            obtain ⟨L', hI'⟩ := hI.step fb hin hin2 hun ho hb hv
            exact ih _ _ _ L' (by have := todo_set hin hun; omega) (inv.set hi hin) hI')
          unfold wpOp
          rw [ho]
          show if _ then _ else _
          split
          · rename_i hw; rw [if_pos hw] at H; exact .inl H
          · rename_i hw; rw [if_neg hw] at H; exact H

/-- The same in the text's order. -/
theorem wpList_flow {l : List Oper} {n : Nat} {D : List Nat} {S : Spec1 U} {st : Stos} {w0 : World} {F : Cell → Prop} (hl : ops = l.toArray) (fb : FlowB ops D n N (S.m :: st.map (·.1))) (hops : ∀ i o, i < n → i ∉ S.m :: st.map (·.1) → ops[i]? = some o → OpOK U P ops Q K al N o) (hsp : ∀ o, S.m < n → ops[S.m]? = some o → SpOK P ops Q K N F S o) (hFS : ∀ g, S.g = some g → g < w0.heap.size) (hst : ∀ e ∈ st, e.1 < n → ∀ o, ops[e.1]? = some o → StoOK U P ops K al D e o) (hSt : ∀ e ∈ st, e.1 ≠ S.m) (hnd : (st.map (·.2.1)).Nodup) (hnm : (st.map (·.1)).Nodup) (hno : st ≠ [] → (∀ w, S.B w) ∧ ∀ w, S.G w)
    (huse : ∀ i o, i < n → i ∉ st.map (·.1) → ops[i]? = some o → ∀ s ∈ usesOf ops o, al.lookup s = none)
    (hQ : ∀ a w L, Flowed U ops K al D n N S st w0 F L a w Df → wpList P ops Q (l.drop n) a w) :
    ∀ (k i : Nat) (a : Act) (w : World) (L : List Nat), i + k = n → FlowInv U ops K al D n N S st w0 F L (headDone i ops.size) a w Df → wpList P ops Q (l.drop i) a w := by
  have hn := fb.le
  have hd : ∀ i j, i ≤ ops.size → ((headDone i ops.size).getD j true = true ↔ (j < i ∨ ops.size ≤ j)) := fun i j hi => by
    unfold headDone
    by_cases h : j < i
    · simp [h, show j < i + (ops.size - i) by omega]
    · by_cases h' : j < ops.size
      · simp [Array.getElem_append, h, show j < i + (ops.size - i) by omega]; omega
      · simp [show ¬ j < i + (ops.size - i) by omega]; omega
  intro k
  induction k with
  | zero =>
    intro i a w L hik hI
    obtain rfl : i = n := by omega
    exact hQ a w L (hI.all (fun j hj => (hd i j hn).2 (.inl hj)))
  | succ k ih =>
    intro i a w L hik hI
    have hin : i < n := by omega
    have hil : i < l.length := by rw [hl] at hn; simp at hn; omega
    have ho : ops[i]? = some l[i] := by rw [hl]; simp [hil]
    rw [List.drop_eq_getElem_cons hil]
    have hnow : ∀ s ∈ usesOf ops l[i], s ∈ D ∨ ∃ i' o', i' < n ∧ (headDone i ops.size).getD i' true = true ∧ ops[i']? = some o' ∧ o'.dst = some s := fun s hs => by
      rcases fb.uses i l[i] hin ho s hs with h | ⟨e, he, hbn, oj, hoj, hdj⟩
      · exact .inl h
      · have hs' : i < ops.size := (Array.getElem?_eq_some_iff.1 ho).1
        have hb := List.all_eq_true.1 fb.back i (List.mem_range.2 hs')
        simp only [ho, Option.all_some] at hb
        have he' := Array.all_eq_true'.1 hb e he
        have hlt : e.on < i := by simpa [hbn] using he'
        exact .inr ⟨e.on, oj, by omega, (hd i e.on (by omega)).2 (.inl hlt), hoj, hdj⟩
    have hun : (headDone i ops.size).getD i true = false := by
      cases h : (headDone i ops.size).getD i true with
      | false => rfl
      | true => rcases (hd i i (by omega)).1 h with h | h <;> omega
    have hz : i < (headDone i ops.size).size := by unfold headDone; simp; omega
    have hcg : ∀ j, j < n → ((headDone (i + 1) ops.size).getD j true = true ↔ ((headDone i ops.size).setIfInBounds i true).getD j true = true) := fun j hj => by
      by_cases e : j = i
      · subst e
        simp only [(hd (j + 1) j (by omega)).2 (.inl (by omega)), true_iff]
        simp [hz]
      · rw [getD_set_ne true (Ne.symm e), hd (i + 1) j (by omega), hd i j (by omega)]
        omega
    by_cases hsto : i ∈ st.map (·.1)
    · obtain ⟨e, he, hee⟩ := List.mem_map.1 hsto
      subst hee
      obtain ⟨hd0, hg0⟩ := fb.sp e.1 _ hin (List.mem_cons_of_mem _ hsto) ho
      have H := hI.stepV (R := wpList P ops Q (l.drop (e.1 + 1))) (Q := Q) fb hnd hnm hno he hin hz ho (hst e he hin _ ho) hnow fun w' hI' => by
        rw [hd0]
        exact ih (e.1 + 1) _ _ L (by omega) (hI'.congr hcg)
      show if _ then _ else _
      rw [if_pos (by simp [Region.wanted, hg0])]
      exact .inl H
    have hknow : ∀ s ∈ usesOf ops l[i], KnownV (K s) w (Also F L) (a.tmps.getD s undef) := fun s hs => by
      rcases hnow s hs with h | ⟨i', o', e1, e2, e3, e4⟩
      · exact hI.env s h
      · exact hI.head i' o' s e1 e2 e3 e4 (huse i _ hin hsto ho s hs)
    by_cases him : i = S.m
    · subst him
      obtain ⟨hd0, hg0⟩ := fb.sp S.m _ hin List.mem_cons_self ho
      have H := hsp _ hin ho a w (Also F L) hI.size hI.fok (fun k hk => .inl hk) hknow (hI.ahead hin hun) (wpList P ops Q (l.drop (S.m + 1))) (fun w' h1 h2 h3 h4 h5 =>
        ih (S.m + 1) _ _ L (by omega) ((hI.stepS fb hSt hFS hin hz ho h1 h3 h4 h5).congr hcg))
      show if _ then _ else _
      rw [if_pos (by simp [Region.wanted, hg0])]
      exact .inl H
    · have hin2 : i ∉ S.m :: st.map (·.1) := fun h => by
        rcases List.mem_cons.1 h with h | h
        · exact him h
        · exact hsto h
      have H := hops i l[i] hin hin2 ho a w (Also F L) hI.size hI.fok hknow (wpList P ops Q (l.drop (i + 1))) (fun v w' hb hv => by
        obtain ⟨L', hI'⟩ := hI.step fb hin hin2 hun ho hb hv
        exact ih (i + 1) _ _ L' (by omega) (hI'.congr hcg))
      show if _ then _ else _
      split
      · rename_i hw; rw [if_pos hw] at H; exact .inl H
      · rename_i hw; rw [if_neg hw] at H; exact H

/-- A region: what holds of its values, told slot by slot. -/
theorem wp_flow {id : Nat} {l : List Oper} {b : Bool} (n : Nat) (D : List Nat) (K : Nat → Bool × Sym) (al : Made) (N : Nat) (S : Spec1 U) (st : Stos) {F : Cell → Prop} {a : Act} {w : World}
    (hm : P.follows .mixedOrders = true) (hB : flowB l.toArray D n N (S.m :: st.map (·.1)) = true) (ha : a.tmps.size = N) (hd : a.defers = Df) (hF : FOK U F w) (hK : ∀ s ∈ D, KnownV (K s) w F (a.tmps.getD s undef))
    (hops : ∀ i o, i < n → i ∉ S.m :: st.map (·.1) → l.toArray[i]? = some o → OpOK U P l.toArray Q K al N o) (hsp : ∀ o, S.m < n → l.toArray[S.m]? = some o → SpOK P l.toArray Q K N F S o) (hFS : ∀ g, S.g = some g → g < w.heap.size) (hB0 : S.m < n → S.B w) (hst : ∀ e ∈ st, e.1 < n → ∀ o, l.toArray[e.1]? = some o → StoOK U P l.toArray K al D e o) (hSt : ∀ e ∈ st, e.1 ≠ S.m) (hnd : (st.map (·.2.1)).Nodup) (hnm : (st.map (·.1)).Nodup) (hno : st ≠ [] → (∀ w, S.B w) ∧ ∀ w, S.G w) (huse : ∀ i o, i < n → i ∉ st.map (·.1) → l.toArray[i]? = some o → ∀ s ∈ usesOf l.toArray o, al.lookup s = none)
    (hQ : ∀ a' w' L, Flowed U l.toArray K al D n N S st w F L a' w' Df → wpList P l.toArray Q (l.drop n) a' w') :
    (Code.region id l.toArray b).wp P Q a w := by
  have fb := flowB_iff hB
  have hnil : ∀ k, Also F [] k → F k := fun k hk => Or.elim hk (fun h => h) (fun h => by cases h)
  have hK' : ∀ s ∈ D, KnownV (K s) w (Also F []) (a.tmps.getD s undef) := fun s hs => (hK s hs).mono (.refl _ _) fun k _ => hnil k
  cases b with
  | true =>
    refine wp_region_any hm ?_
    have hun : ∀ i, i < n → (Array.replicate l.toArray.size false).getD i true = false := fun i hi => getD_in (by have := fb.le; simp at this ⊢; omega) (getD_replicate_false _ _)
    have inv0 : HeadInv .any l.toArray n (Array.replicate l.toArray.size false) :=
      ⟨by simp, fun j oj _ hl => (by rw [getD_replicate_false] at hl; cases hl), fun t _ ht => getD_in (by simpa using ht) (getD_replicate_false _ _)⟩
    have H := wpAny_flow (P := P) (Q := Q) (K := K) (al := al) (N := N) (w0 := w) (F := F) rfl fb hops hsp hFS hst hSt hnd hnm hno huse hQ n (Array.replicate l.toArray.size false) a w.drew []
      (by unfold todo; exact Nat.le_trans (List.length_filter_le _ _) (by simp)) inv0
      ⟨ha, hd, only_drew (only_refl _ _), fun hm _ => S.keepB (hB0 hm) (Below.refl _ _).drew, (fun hm h => by rw [hun _ hm] at h; cases h), (hF.sub hnil).below (Below.refl _ _).drew, (fun g h => by cases h), fun s hs => (hK' s hs).below (Below.refl _ _).drew, (fun i o d hi h => by rw [hun i hi] at h; cases h), (fun i o d T z hi h => by rw [hun i hi] at h; cases h), (fun e _ hen h => by rw [hun e.1 hen] at h; cases h), (fun i o d j o' d' p p' hi h => by rw [hun i hi] at h; cases h)⟩
    refine wpAny_le ?_ H
    have := fb.le
    omega
  | false =>
    refine wp_region_lit ?_
    have h0 : ∀ i, i < n → (headDone 0 l.toArray.size).getD i true = false := fun i hi => by
      have := fb.le
      simp at this
      unfold headDone
      simp only [List.size_toArray, Array.replicate_zero, Array.empty_append, Nat.sub_zero]
      exact getD_in (by simp; omega) (getD_replicate_false _ _)
    have H := wpList_flow (P := P) (Q := Q) (K := K) (al := al) (N := N) (w0 := w) (F := F) rfl fb hops hsp hFS hst hSt hnd hnm hno huse hQ n 0 a w [] (by omega)
      ⟨ha, hd, only_refl _ _, fun hm _ => hB0 hm, (fun hm h => by rw [h0 _ hm] at h; cases h), hF.sub hnil, (fun g h => by cases h), hK', (fun i o d hi h => by rw [h0 i hi] at h; cases h), (fun i o d T z hi h => by rw [h0 i hi] at h; cases h), (fun e _ hen h => by rw [h0 e.1 hen] at h; cases h), (fun i o d j o' d' p p' hi h => by rw [h0 i hi] at h; cases h)⟩
    simpa using H
end
end Go.Proofs.Ytbeeiecbbmiojaa.Y
