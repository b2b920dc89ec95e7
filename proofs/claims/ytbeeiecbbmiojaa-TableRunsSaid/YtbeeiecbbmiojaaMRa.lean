/- MRa: Yiter, Yround, Ymark, one behind the other. -/
import Derived.Test.YtbeeiecbbmiojaaYout
import Derived.Maps.RangeRun
import Derived.Test.YtbeeiecbbmiojaaYswap
import Derived.RangeFuncFrom
import Derived.RangeFuncLeaves
import Derived.RangeFuncCalls
import Derived.OrdersIn

/- A range over a map whose keys are whole numbers. No program in sight. -/
namespace Go.Proofs.Ytbeeiecbbmiojaa.Y
open Go.RowKit Go.ChangeMaps Go.MapKept

def keyZ : Value → Int
  | .int _ x => x
  | _ => 0
/-- A walk over the map in block b: which keys are still to come, and which pair came last. -/
def IterAt (w : World) (r b : Nat) (k : IntKind) (l : List (Int × Value)) (todo : List Int) (last : Option (Int × Value)) : Prop :=
  ∃ es clock since seen c0, w.heap[b]? = some (.map es clock) ∧ es.toList.map (fun x => (x.key, x.val)) = l.map (fun p => (Value.int k p.1, p.2)) ∧ Stamped es clock ∧ w.heap[r]? = some (.mapIter (some b) since seen c0) ∧
    (∀ x ∈ es.toList, x.born < since) ∧ since ≤ c0 ∧ since ≤ clock ∧ todo = (leftOf es seen).toList.map (fun e => keyZ e.key) ∧ ∀ x v, last = some (x, v) → ∃ (e : MapEntry) (s0 : Array Nat), e ∈ es.toList ∧ seen = s0.push e.born ∧ c0 = clock ∧ e.key = .int k x ∧ e.val = v
section
variable {w w' : World} {r b : Nat} {k : IntKind} {l : List (Int × Value)} {todo : List Int} {last : Option (Int × Value)}
theorem IterAt.lt (h : IterAt w r b k l todo last) : r < w.heap.size := by
  obtain ⟨_, _, _, _, _, _, _, _, hr, _⟩ := h
  exact (Array.getElem?_eq_some_iff.1 hr).1
theorem IterAt.ltb (h : IterAt w r b k l todo last) : b < w.heap.size := by
  obtain ⟨_, _, _, _, _, hb, _⟩ := h
  exact (Array.getElem?_eq_some_iff.1 hb).1
theorem IterAt.kept (h : IterAt w r b k l todo last) (h1 : w'.heap[b]? = w.heap[b]?) (h2 : w'.heap[r]? = w.heap[r]?) : IterAt w' r b k l todo last := by
  obtain ⟨es, clock, since, seen, c0, hb, hp, hs, hr, rest⟩ := h
  exact ⟨es, clock, since, seen, c0, h1.trans hb, hp, hs, h2.trans hr, rest⟩
theorem IterAt.below (h : IterAt w r b k l todo last) (hb : Below w.heap.size w w') : IterAt w' r b k l todo last := h.kept (hb.block b h.ltb) (hb.block r h.lt)
theorem IterAt.grown {x : Option Nat} (h : IterAt w r b k l todo last) (hg : w.grownBy w' x) (h1 : some b ≠ x) (h2 : some r ≠ x) : IterAt w' r b k l todo last := h.kept (hg.block b h.ltb h1) (hg.block r h.lt h2)
/-- It is no block of cells. -/
theorem IterAt.ne_blk {g : Nat} {T : TypeId} {cs : Array Value} (h : IterAt w r b k l todo last) (hB : Blk w g T cs) : g ≠ r := fun e => by
  obtain ⟨_, _, _, _, _, _, _, _, hr, _⟩ := h
  subst e
  unfold Blk at hB
  rw [hB] at hr
  cases hr
end
theorem perm_pull : ∀ {L : List MapEntry} {e : MapEntry}, (L.map (·.born)).Nodup → e ∈ L → L.Perm (e :: L.filter fun x => !(x.born == e.born))
  | a :: t, e, hn, he => by
    rw [List.map_cons, List.nodup_cons] at hn
    by_cases h : a.born = e.born
    · have hae : a = e := by
        rcases List.mem_cons.1 he with h1 | h1
        · exact h1.symm
        · exact absurd (h ▸ List.mem_map.2 ⟨e, h1, rfl⟩) hn.1
      subst hae
      rw [List.filter_cons, if_neg (by simp)]
      have : t.filter (fun x => !(x.born == a.born)) = t := List.filter_eq_self.2 fun x hx => by
        have : x.born ≠ a.born := fun e => hn.1 (e ▸ List.mem_map.2 ⟨x, hx, rfl⟩)
        simpa using this
      rw [this]
    · rw [List.filter_cons, if_pos (by simpa using h)]
      have het : e ∈ t := by
        rcases List.mem_cons.1 he with h1 | h1
        · exact absurd (by rw [h1]) h
        · exact h1
      exact ((perm_pull hn.2 het).cons a).trans (List.Perm.swap e a _)
theorem left_step {es : Array MapEntry} {seen : Array Nat} {e : MapEntry} (hn : (es.toList.map (·.born)).Nodup) (he : e ∈ (leftOf es seen).toList) : (leftOf es seen).toList.Perm (e :: (leftOf es (seen.push e.born)).toList) := by
  have h1 : (leftOf es seen).toList = es.toList.filter fun x => !seen.contains x.born := by unfold leftOf; simp
  have h2 : (leftOf es (seen.push e.born)).toList = (leftOf es seen).toList.filter fun x => !(x.born == e.born) := by
    rw [h1, List.filter_filter]
    unfold leftOf
    simp only [Array.toList_filter]
    apply List.filter_congr
    intro x _
    rw [contains_push]
    cases seen.contains x.born <;> cases (x.born == e.born) <;> rfl
  rw [h2]
  exact perm_pull (by rw [h1]; exact hn.sublist ((List.filter_sublist).map _)) he
section
variable {P : Program} {Q : Exit → Act → World → Prop} {ops : Array Oper} {rest : List Oper} {o : Oper} {N : Nat} {e e2 : Env} {a : Act} {w : World}
theorem range_on {d b : Nat} {T kt et : TypeId} {k : IntKind} {l : List (Int × Value)} {x1 : Operand} (h : StE False N e noF a w) (ho : o.op = .range T x1) (hd : o.dst = some d) (hdN : decide (d < N) = true) (hgd : o.guard = none)
    (ht : P.underlying T = some (.map kt et)) (h1 : a.eval x1 = .map (some b)) (hm : MapAt w b k l) (hv : ValsB e e2)
    (hQ : ∀ r a' w', IterAt w' r b k l (l.map (·.1)) none → w.heap.size ≤ r → Below w.heap.size w w' → StE False N ((d, true, .val (.pointer (some ⟨r, 0, none⟩))) :: e2) noF a' w' → wpList P ops Q rest a' w') : wpList P ops Q (o :: rest) a w := by
  refine wpList_plain hgd fun K hK => ?_
  obtain ⟨es, clock, hb, hp, hn, hs⟩ := hm
  have hrun := run_range_map w T kt et b es clock ht hb
  have hB : Below w.heap.size w (w.alloc (.mapIter (some b) clock #[] clock)) := (Below.refl _ _).alloc (Nat.le_refl _) _
  have hlt : b < w.heap.size := (Array.getElem?_eq_some_iff.1 hb).1
  have hIt : IterAt (w.alloc (.mapIter (some b) clock #[] clock)) w.heap.size b k l (l.map (·.1)) none := by
    refine ⟨es, clock, clock, #[], clock, (hB.block b hlt).trans hb, hp, hs, World.alloc_heap_new w _, hs.1, Nat.le_refl _, Nat.le_refl _, ?_, fun _ _ e => by cases e⟩
    have h2 : (leftOf es #[]).toList = es.toList := by unfold leftOf; simp
    rw [h2]
    have h3 := congrArg (List.map fun q : Value × Value => keyZ q.1) hp
    rw [List.map_map, List.map_map] at h3
    exact h3.symm
  unfold Oper.wp
  simp only [execOp, ho, h1, Sem.run_bind, hrun, Result.andThen_ok, Sem.run_pure]
  show K _ _
  rw [hd]
  exact hK _ _ (hQ _ _ _ hIt (Nat.le_refl _) hB ((h.vals (fok_no _ _) hv).mono hB |>.put (Below.refl _ _) (by simpa using hdN) ⟨fun _ => rfl, fun e => by cases e⟩))
theorem next_on {d r b : Nat} {k : IntKind} {l : List (Int × Value)} {todo : List Int} {last : Option (Int × Value)} {it : Operand} (h : StE False N e noF a w) (ho : o.op = .next it false) (hd : o.dst = some d) (hdN : decide (d < N) = true) (hgd : o.guard = none)
    (h1 : a.eval it = .pointer (some ⟨r, 0, none⟩)) (hI : IterAt w r b k l todo last) (hv : ValsB e e2)
    (hDone : ∀ a', todo = [] → StE False N ((d, true, .val (.tuple #[.bool false])) :: e2) noF a' w → wpList P ops Q rest a' w)
    (hMore : ∀ x v todo' a' w', todo.Perm (x :: todo') → (x, v) ∈ l → IterAt w' r b k l todo' (some (x, v)) → w.grownBy w' (some r) → StE False N ((d, true, .val (.tuple #[.bool true, .int k x, v])) :: e2) noF a' w' → wpList P ops Q rest a' w') : wpList P ops Q (o :: rest) a w := by
  refine wpList_plain hgd fun K hK => ?_
  obtain ⟨es, clock, since, seen, c0, hb, hp, hs, hr, hold, hsc, hsk, htd, _⟩ := hI
  unfold Oper.wp
  rcases run_next_at (P := P) w o.type r b since c0 seen es clock hr hb hold hsc with ⟨h0, hrun⟩ | ⟨q, hq, w1, hal, hrun⟩
  · simp only [execOp, ho, h1, Sem.run_bind, hrun, Result.andThen_ok, Sem.run_pure]
    show K _ _
    rw [hd]
    refine hK _ _ (hDone _ ?_ ((h.vals (fok_no _ _) hv).put (Below.refl _ _) (by simpa using hdN) ⟨fun _ => rfl, fun e => by cases e⟩))
    rw [htd, Array.eq_empty_of_size_eq_zero h0]
    rfl
  · obtain ⟨hqm, hqs⟩ := mem_left hq
    have hmem : (q.key, q.val) ∈ l.map (fun p => (Value.int k p.1, p.2)) := by rw [← hp]; exact List.mem_map.2 ⟨q, hqm, rfl⟩
    obtain ⟨⟨x, v⟩, hxl, hxe⟩ := List.mem_map.1 hmem
    simp only [Prod.mk.injEq] at hxe
    have hr1 : w1.heap[r]? = some (.mapIter (some b) since seen c0) := by rcases hal with rfl | rfl <;> exact hr
    have hb1 : w1.heap[b]? = some (.map es clock) := by rcases hal with rfl | rfl <;> exact hb
    have hne : r ≠ b := fun e => by rw [e, hb] at hr; cases hr
    have hlt : r < w1.heap.size := (Array.getElem?_eq_some_iff.1 hr1).1
    have hnew : (setBlock w1 r (.mapIter (some b) since (seen.push q.born) clock)).heap[r]? = some (.mapIter (some b) since (seen.push q.born) clock) := by simp [setBlock, hlt]
    have hoth : ∀ i, i ≠ r → (setBlock w1 r (.mapIter (some b) since (seen.push q.born) clock)).heap[i]? = w1.heap[i]? := fun i hi => by simp [setBlock, Ne.symm hi]
    have G : w.grownBy (setBlock w1 r (.mapIter (some b) since (seen.push q.born) clock)) (some r) := by
      rcases hal with rfl | rfl <;> exact ⟨rfl, rfl, rfl, by simp [setBlock], fun i _ hi => hoth i fun e => hi (by rw [e])⟩
    simp only [execOp, ho, h1, Sem.run_bind, hrun, Result.andThen_ok, Sem.run_pure]
    show K _ _
    rw [hd]
    have hxk : q.key = .int k x := hxe.1.symm
    have hxv : q.val = v := hxe.2.symm
    rw [hxk, hxv]
    refine hK _ _ (hMore x v ((leftOf es (seen.push q.born)).toList.map fun e => keyZ e.key) _ _ ?_ hxl ⟨es, clock, since, seen.push q.born, clock, (hoth b (Ne.symm hne)).trans hb1, hp, hs, hnew, hold, hsk, hsk, rfl, fun x' v' e => by cases e; exact ⟨q, seen, hqm, rfl, rfl, hxk, hxv⟩⟩ G ((h.vals (fok_no _ _) hv).put (Below.refl _ _) (by simpa using hdN) ⟨fun _ => rfl, fun e => by cases e⟩))
    rw [htd]
    have := (left_step hs.2.1 hq).map fun e : MapEntry => keyZ e.key
    rw [List.map_cons, hxk] at this
    exact this
theorem entry_on {d r b : Nat} {k : IntKind} {l : List (Int × Value)} {todo : List Int} {x : Int} {v : Value} {it : Operand} (h : StE False N e noF a w) (ho : o.op = .entry it) (hd : o.dst = some d) (hdN : decide (d < N) = true) (hgd : o.guard = none)
    (h1 : a.eval it = .pointer (some ⟨r, 0, none⟩)) (hI : IterAt w r b k l todo (some (x, v))) (hv : ValsB e e2)
    (hQ : ∀ a', StE False N ((d, true, .val (.tuple #[.int k x, v])) :: e2) noF a' w → wpList P ops Q rest a' w) : wpList P ops Q (o :: rest) a w := by
  refine wpList_plain hgd fun K hK => ?_
  obtain ⟨es, clock, since, seen, c0, hb, hp, hs, hr, hold, hsc, hsk, htd, hl⟩ := hI
  obtain ⟨q, s0, hqm, rfl, rfl, hqk, hqv⟩ := hl x v rfl
  have hrun := run_entry_at (P := P) w r b since s0 es c0 q hr hb hqm hs.2.1
  unfold Oper.wp
  simp only [execOp, ho, h1, Sem.run_bind, hrun, Result.andThen_ok, Sem.run_pure]
  show K _ _
  rw [hd, hqk, hqv]
  exact hK _ _ (hQ _ ((h.vals (fok_no _ _) hv).put (Below.refl _ _) (by simpa using hdN) ⟨fun _ => rfl, fun e => by cases e⟩))
end
section
variable {U : Prop} {P : Program} {ops : Array Oper} {Q : Exit → Act → World → Prop} {N : Nat} {e : Env} {d i : Nat} {t : TypeId} {p : String} {af : Array Edge} {g : Option (Nat × Bool)} {c : Bool} {x : Operand} {vs : Array Value} {v : Value}
theorem p_extT (hi : vs[i]? = some v) (hg : GdE ops e g c) (hx : OpdE e c x (.val (.tuple vs))) : Pays U P ops Q N e ⟨some d, .extract x i, t, p, af, g⟩ (c, .val v) :=
  pVal hg fun e a w F hk => ⟨v, by
    have h1 : a.eval x = .tuple vs := hx a w F (fun s hs => hk s (by simp [Op.operands, hs])) e
    simp [execOp, h1, Instr.extract, hi], rfl⟩
end
end Go.Proofs.Ytbeeiecbbmiojaa.Y

/- A range over a function that is told by a method value: the law of the statement, the calls of yield, what is walked within a round. No program in sight. -/
namespace Go.Proofs.Ytbeeiecbbmiojaa.Y
open Go.RowKit

/-- The fence that lets all in, within a round or not. -/
abbrev Fw (r : Option Nat) : Fence := { Fence.wide with round := r }
theorem rows_in {P : Program} {row : String} {args : Array Value} {w : World} {R : Value → World → Prop} {n : Nat} (r : Option Nat) (h : Rows P row args w R) : RowsIn (Fw r) n P row args w R := fun c cs _ => by
  obtain ⟨v, w', h1, h2⟩ := h c cs
  exact ⟨v, w', h1, stepsIn_wide.2 h2⟩
theorem calls_in {P : Program} {f : FuncId} {args : Array Value} {w : World} {R : Ending → World → Prop} {n : Nat} (r : Option Nat) (h : Calls P f args w R) : CallsIn (Fw r) n P f args w R := callsIn_wide.2 h
def noDefer (o : Oper) : Bool := match o.op with
  | .defer _ => false
  | _ => true
theorem noDefer_ne {o : Oper} (h : noDefer o = true) (c : Call) : o.op ≠ .defer c := fun e => by
  unfold noDefer at h
  rw [e] at h
  cases h
theorem op_in {P : Program} {o : Oper} {a : Act} {w : World} {next : Act → World → Prop} {Q : Exit → Act → World → Prop} {n : Nat} (r : Option Nat) (hd : noDefer o = true) (h : o.wp P a w next Q) : o.wpIn (Fw r) n P a w next Q := by
  refine ⟨fun _ _ => trivial, ?_⟩
  rw [Oper.semAt_eq _ _ _ (noDefer_ne hd)]
  unfold Oper.wp at h
  generalize (execOp a.eval o).run P w = res at h ⊢
  unfold Oper.upon at h
  unfold Oper.uponIn
  split at h
  · exact h
  · exact h
  · exact h
  · exact ⟨(fun e => by cases e), calls_in r h⟩
  · exact ⟨(fun e => by cases e), rows_in r h⟩
  · exact h
  · exact h.elim
theorem list_in {P : Program} {ops : Array Oper} {Q : Exit → Act → World → Prop} {n : Nat} (r : Option Nat) (hQ : ¬ LetsOut Q) : ∀ {l : List Oper} {a : Act} {w : World}, l.all noDefer = true → wpList P ops Q l a w → wpListIn (Fw r) n P ops Q l a w
  | [], _, _, _, h => h
  | o :: t, a, w, hd, h => by
    rw [List.all_cons, Bool.and_eq_true] at hd
    have h' : if Region.wanted o (yielded ops a.tmps) then o.wp P a w (wpList P ops Q t) Q ∨ (o.asks P a w ∧ LetsOut Q) else wpList P ops Q t (a.put o.dst undef) w := h
    show if _ then _ else _
    split
    · rename_i hw
      rw [if_pos hw] at h'
      rcases h' with h' | ⟨_, h'⟩
      · exact Oper.wpIn_mono (fun a' w' h2 => list_in r hQ hd.2 h2) (op_in r hd.1 h')
      · exact absurd h' hQ
    · rename_i hw
      rw [if_neg hw] at h'
      exact ⟨fun _ _ => trivial, list_in r hQ hd.2 h'⟩
theorem any_in {P : Program} {ops : Array Oper} {Q : Exit → Act → World → Prop} {n : Nat} (r : Option Nat) (hQ : ¬ LetsOut Q) (hd : ops.toList.all noDefer = true) : ∀ {k : Nat} {listed : Array Bool} {a : Act} {w : World}, wpAny P .any ops Q k listed a w → wpAnyIn (Fw r) n P .any ops Q k listed a w
  | 0, _, _, _, h => h
  | k + 1, listed, a, w, h => by
    refine ⟨h.1, fun i hi => ?_⟩
    have h' := h.2 i hi
    unfold wpOp at h'
    unfold wpOpIn
    cases ho : ops[i]? with
    | none => rw [ho] at h'; exact any_in r hQ hd h'
    | some o =>
      rw [ho] at h'
      have hdo : noDefer o = true := List.all_eq_true.1 hd o (by
        obtain ⟨h1, h2⟩ := Array.getElem?_eq_some_iff.1 ho
        rw [← h2]
        exact Array.mem_toList_iff.2 (Array.getElem_mem h1))
      simp only at h' ⊢
      split
      · rename_i hw
        rw [if_pos hw] at h'
        rcases h' with h' | ⟨_, h'⟩
        · exact Oper.wpIn_mono (fun a' w' h2 => any_in r hQ hd h2) (op_in r hdo h')
        · exact absurd h' hQ
      · rename_i hw
        rw [if_neg hw] at h'
        exact ⟨fun _ _ => trivial, any_in r hQ hd h'⟩
/-- A region within a round, in the text's order. -/
theorem reg_in {P : Program} {Q : Exit → Act → World → Prop} {n id : Nat} {r : Option Nat} {l : List Oper} {a : Act} {w : World} (hQ : ¬ LetsOut Q) (hd : l.all noDefer = true) (h : wpList P l.toArray Q l a w) : (Code.region id l.toArray false).wpIn (Fw r) n P Q a w :=
  wpIn_region_lit (list_in r hQ hd h)
/-- A region within a round, drawn. -/
theorem reg_any_in {P : Program} {Q : Exit → Act → World → Prop} {n id : Nat} {r : Option Nat} {l : List Oper} {a : Act} {w : World} (hm : P.follows .mixedOrders = true) (hQ : ¬ LetsOut Q) (hd : l.all noDefer = true) (h : wpAny P .any l.toArray Q l.toArray.size (Array.replicate l.toArray.size false) a w.drew) : (Code.region id l.toArray true).wpIn (Fw r) n P Q a w :=
  wpIn_region_any hm (any_in r hQ hd h)

section
variable {U : Prop} {P : Program} {ops : Array Oper} {Q : Exit → Act → World → Prop} {N : Nat}
/-- A drawn region of operations that change nothing that is known. -/
structure InvP (U : Prop) (ops : Array Oper) (K : Nat → Bool × Sym) (D : List Nat) (n N : Nat) (w0 : World) (F : Cell → Prop) (listed : Array Bool) (a : Act) (w : World) : Prop where
  size : a.tmps.size = N
  defers : a.defers = []
  below : Below w0.heap.size w0 w
  fok : FOK U F w
  env : ∀ s ∈ D, KnownV (K s) w F (a.tmps.getD s undef)
  head : ∀ i o d, i < n → listed.getD i true = true → ops[i]? = some o → o.dst = some d → KnownV (K d) w F (a.tmps.getD d undef)
theorem any_flow {l : List Oper} {e e1 : Env} {F : Cell → Prop} {a : Act} {w : World} (h : StE U N e F a w) (hB : flowB l.toArray (e.map (·.1)) l.length N [l.length] = true)
    (hC : Chain U P l.toArray Q N e [] l e1 []) (hF : freshB (e.map (·.1)) (dstsOf l) = true)
    (hQ : ∀ a' w', Below w.heap.size w w' → StE U N e1 F a' w' → Q .normal a' w') : wpAny P .any l.toArray Q l.toArray.size (Array.replicate l.toArray.size false) a w.drew := by
  have I1 := chain_ok hC hF (fun s hs => by cases hs)
  have fb := flowB_iff hB
  have hms : ∀ x, x < l.length → x ∉ [l.length] := fun x hx h => by rw [List.mem_singleton.1 h] at hx; exact Nat.lt_irrefl _ hx
  have hK : ∀ s k, e1.lookup s = some k → (e1.lookup s).getD (true, Sym.any) = k := fun s k hs => by rw [hs]; rfl
  have hl0 : ∀ i o, l.toArray[i]? = some o → l[i]? = some o := fun i o ho => by rwa [List.getElem?_toArray] at ho
  have hun : ∀ i, i < l.length → (Array.replicate l.toArray.size false).getD i true = false := fun i hi => getD_in (by simpa using hi) (getD_replicate_false _ _)
  have inv0 : HeadInv .any l.toArray l.length (Array.replicate l.toArray.size false) :=
    ⟨by simp, fun j oj _ hl => (by rw [getD_replicate_false] at hl; cases hl), fun t _ ht => getD_in (by simpa using ht) (getD_replicate_false _ _)⟩
  have H := wpAny_gen (P := P) (Q := Q) (ops := l.toArray) (N := N) rfl fb (InvP U l.toArray (fun s => (e1.lookup s).getD (true, .any)) (e.map (·.1)) l.length N w F) (fun listed a w2 i o hi ho hunl hz hnow hI R hR => by
      have hknow : ∀ s ∈ usesOf l.toArray o, KnownV ((e1.lookup s).getD (true, Sym.any)) w2 F (a.tmps.getD s undef) := fun s hs => by
        rcases hnow s hs with h | ⟨i', o', e1, e2, e3, e4⟩
        · exact hI.env s h
        · exact hI.head i' o' s e1 e2 e3 e4
      obtain ⟨d, hd, hdN, hdD⟩ := fb.dst i o hi (hms i hi) ho
      have hdst : o.dst ≠ none := by rw [hd]; exact fun h => by cases h
      refine I1.ok _ hK i o (hl0 i o ho) hdst a w2 F hI.size hI.fok hknow R fun v w' hb hv => hR _ w' ?_
      have hput : (a.put o.dst v).tmps = a.tmps.setIfInBounds d v := by rw [hd]; rfl
      have hdef : (a.put o.dst v).defers = a.defers := by rw [hd]; rfl
      have hds : d < a.tmps.size := by rw [hI.size]; exact hdN
      have other : ∀ s, s ≠ d → (a.put o.dst v).tmps.getD s undef = a.tmps.getD s undef := fun s hs => by rw [hput]; exact getD_put_ne (Ne.symm hs)
      refine ⟨by rw [hput]; simp [hI.size], hdef.trans hI.defers, hI.below.trans (hb.mono hI.below.size), hI.fok.below hb, fun s hs => ?_, fun j oj dj hj hl hoj hdj => ?_⟩
      · rw [other s fun e => hdD (e ▸ hs)]
        exact (hI.env s hs).below hb
      · by_cases e : j = i
        · subst e
          rw [ho] at hoj; cases hoj
          rw [hd] at hdj; cases hdj
          rw [hput, show (a.tmps.setIfInBounds d v).getD d undef = v from getD_put_eq hds]
          exact hv d hd
        · have hne : dj ≠ d := fun e' => by subst e'; exact e (fb.own i o dj j oj hi ho hd hj hoj hdj)
          rw [other dj hne]
          exact (hI.head j oj dj hj (by rwa [getD_set_ne true (Ne.symm e)] at hl) hoj hdj).below hb)
    (fun a' w' listed hall hI => by
      rw [List.drop_length]
      refine hQ a' w' hI.below ⟨hI.size, hI.defers, hI.fok, fun s k hk => ?_⟩
      rcases List.mem_append.1 (I1.keys s k hk) with h1 | h1
      · have : KnownV ((e1.lookup s).getD (true, Sym.any)) w' F (a'.tmps.getD s undef) := hI.env s h1
        rwa [hK s k hk] at this
      · obtain ⟨o, ho, hd⟩ := List.mem_flatMap.1 h1
        obtain ⟨i, hi, rfl⟩ := List.getElem_of_mem ho
        have : KnownV ((e1.lookup s).getD (true, Sym.any)) w' F (a'.tmps.getD s undef) := hI.head i _ s hi (hall i hi) (by rw [List.getElem?_toArray]; exact List.getElem?_eq_getElem hi) (by simpa using hd)
        rwa [hK s k hk] at this)
    l.length (Array.replicate l.toArray.size false) a w.drew
    (by unfold todo; exact Nat.le_trans (List.length_filter_le _ _) (by simp)) inv0
    ⟨h.size, h.defers, (Below.refl _ _).drew, h.fok.below (Below.refl _ _).drew, fun s hs => by
      obtain ⟨k, hk⟩ := lookup_some hs
      rw [hK s k (I1.ext s k hk)]
      exact (h.known s k hk).below (Below.refl _ _).drew, fun i o d hi h => by rw [hun i hi] at h; cases h⟩
  refine wpAny_le ?_ H
  simp
/-- The head of a region in the text's order, within a round or not. -/
theorem chain_in {l0 : List Oper} {F : Cell → Prop} {n : Nat} {r : Option Nat} : ∀ {l : List Oper} {e e' : Env} {a : Act} {w : World}, Chain U P l0.toArray Q N e [] l e' [] → l.all (fun o => o.dst.any fun d => decide (d < N)) = true → l.all noDefer = true → StE U N e F a w → ∀ {t : List Oper},
    (∀ a' w', Below w.heap.size w w' → StE U N e' F a' w' → wpListIn (Fw r) n P l0.toArray Q t a' w') → wpListIn (Fw r) n P l0.toArray Q (l ++ t) a w
  | [], e, e', a, w, h, _, _, hs, t, hQ => by
    obtain ⟨rfl, _⟩ := h
    exact hQ a w (Below.refl _ _) hs
  | o :: l, e, e', a, w, .inr ⟨hd, _⟩, hN, _, _, _, _ => by simp [hd] at hN
  | o :: l, e, e', a, w, .inl ⟨d, hd, hc⟩, hN, hD, hs, t, hQ => by
    rw [List.all_cons, Bool.and_eq_true] at hN hD
    have hdN : d < N := by simpa [hd] using hN.1
    rcases hc with ⟨k, hp, hr⟩ | ⟨T, z, hp, hr⟩
    · have H := hp a w F hs.size hs.fok (fun s _ => hs.known s) (wpListIn (Fw r) n P l0.toArray Q (l ++ t)) (fun v w' hb hv => by
        have hs' : StE U N ((d, k) :: e) F (a.put o.dst v) w' := by rw [hd]; exact hs.put hb hdN hv
        exact chain_in hr hN.2 hD.2 hs' fun a'' w'' hb' hs'' => hQ a'' w'' (hb.trans (hb'.mono hb.size)) hs'')
      show if _ then _ else _
      split
      · rename_i hw; rw [if_pos hw] at H; exact op_in r hD.1 H
      · rename_i hw; rw [if_neg hw] at H; exact ⟨fun _ _ => trivial, H⟩
    · exfalso
      have : ∀ {l : List Oper} {e e' : Env} {al al' : Made}, Chain U P l0.toArray Q N e al l e' al' → al.length ≤ al'.length := by
        intro l
        induction l with
        | nil => rintro e e' al al' ⟨rfl, rfl⟩; exact Nat.le_refl _
        | cons o t ih =>
          rintro e e' al al' (⟨d, _, ⟨k, _, hr⟩ | ⟨T, z, _, hr⟩⟩ | ⟨_, hr⟩)
          · exact ih hr
          · exact Nat.le_trans (Nat.le_succ _) (ih hr)
          · exact ih hr
      have := this hr
      simp at this
theorem chainIn {l l0 : List Oper} {e e' : Env} {F : Cell → Prop} {n : Nat} {r : Option Nat} {a : Act} {w : World} (k : Nat) (hC : Chain U P l0.toArray Q N e [] (l.take k) e' []) (hN : (l.take k).all (fun o => o.dst.any fun d => decide (d < N)) = true) (hD : (l.take k).all noDefer = true) (hs : StE U N e F a w)
    (hQ : ∀ a' w', Below w.heap.size w w' → StE U N e' F a' w' → wpListIn (Fw r) n P l0.toArray Q (l.drop k) a' w') : wpListIn (Fw r) n P l0.toArray Q l a w := by
  have := chain_in hC hN hD hs (t := l.drop k) hQ
  rwa [List.take_append_drop] at this
/-- A call of yield. -/
theorem yield_on {rest : List Oper} {o : Oper} {e e2 : Env} {a : Act} {w : World} {d l n m : Nat} {v : Value} {x y : Operand} {T : Array TypeId} {R : Ending → World → Prop} (h : StE False N e noF a w) (ho : o.op = .call { callee := .value x, args := #[y], argTypes := T }) (hw : Region.wanted o (yielded ops a.tmps) = true) (hd : o.dst = some d) (hdN : decide (d < N) = true)
    (hx : a.eval x = .func (.yield l) #[] #[]) (hy : a.eval y = v) (hY : YieldAt Fence.wide m P l #[v] w R) (hv : ValsB e e2) (hR : ∀ e w', R e w' → ∃ b, e = .returned b ∧ ∀ a', StE False N ((d, true, .val b) :: e2) noF a' w' → wpListIn (Fw none) n P ops Q rest a' w') : wpListIn (Fw none) n P ops Q (o :: rest) a w := by
  obtain ⟨fn, tmps, assign, body, hrun, hro⟩ := hY
  show if _ then _ else _
  rw [if_pos hw]
  refine ⟨fun _ _ => trivial, ?_⟩
  have hex : (execOp a.eval o).run P w = .ok (.round l fn tmps assign body) w := by
    generalize a.eval = ev at hx hy ⊢
    unfold execOp
    rw [ho]
    simp only [resolve]
    simp [go_sem, hx, hy, invoke, hrun]
  show o.uponIn _ _ _ _ _ _ ((execOp a.eval o).run P w)
  rw [hex]
  refine ⟨(fun e => by cases e), hro.1, fun c cs hroom => ?_⟩
  obtain ⟨e', w', h1, h2⟩ := hro.2 c cs (room_wide _)
  obtain ⟨b, rfl, h3⟩ := hR e' w' h1
  refine ⟨.returned b, w', ?_, h2⟩
  show wpListIn (Fw none) n P ops Q rest (a.put o.dst b) w'
  rw [hd]
  exact h3 _ ((h.vals (fok_no _ _) hv).put (Below.refl _ _) (by simpa using hdN) ⟨fun _ => rfl, fun e => by cases e⟩)
end

/-- What a round's body leaves as it was: cells, and whatever lay there when the range began, but for the blocks of E. -/
structure KeepE (n0 : Nat) (E : Nat → Prop) (W W' : World) : Prop where
  size : W.heap.size ≤ W'.heap.size
  kept : ∀ g o, ¬ E g → W.heap[g]? = some o → (o.isCells = true ∨ g < n0) → W'.heap[g]? = some o
theorem KeepE.refl (n0 : Nat) (E : Nat → Prop) (W : World) : KeepE n0 E W W := ⟨Nat.le_refl _, fun _ _ _ h _ => h⟩
theorem KeepE.trans {n0 : Nat} {E : Nat → Prop} {A B C : World} (h : KeepE n0 E A B) (k : KeepE n0 E B C) : KeepE n0 E A C := ⟨Nat.le_trans h.size k.size, fun g o hn ho hc => k.kept g o hn (h.kept g o hn ho hc) hc⟩
theorem KeepE.blk {n0 : Nat} {E : Nat → Prop} {W W' : World} {g : Nat} {T : TypeId} {cs : Array Value} (h : KeepE n0 E W W') (hB : Blk W g T cs) (hn : ¬ E g) : Blk W' g T cs := h.kept g _ hn hB (.inl rfl)
theorem KeepE.only {n0 : Nat} {E : Nat → Prop} {W W' : World} (h : OnlyB E W W') : KeepE n0 E W W' := ⟨h.size, fun g _ hn ho _ => (h.block g (Array.getElem?_eq_some_iff.1 ho).1 hn).trans ho⟩
/-- A function that goes over xs. -/
def Iter {α : Type} (P : Program) (gf : Nat) (ra lb : Array Value) (enc : α → Value) (xs : List α) (E : Nat → Prop) (w : World) : Prop :=
  ∀ (l : Nat) (J Jx : List α → World → Prop) (W : World), Below w.heap.size w W → (∀ p A B, J p A → Below W.heap.size A B → J p B) → (∀ p A B, Jx p A → Below W.heap.size A B → Jx p B) →
    (∀ pre x W1, J pre W1 → (pre ++ [x]) <+: xs → YieldAt Fence.wide 0 P l #[enc x] W1 fun e W' => (e = .returned (.bool true) ∧ J (pre ++ [x]) W' ∧ KeepE w.heap.size E W1 W') ∨ (e = .returned (.bool false) ∧ Jx (pre ++ [x]) W' ∧ W.heap.size ≤ W'.heap.size)) →
    J [] W → Calls P gf (ra ++ #[.func (.yield l) #[] #[]] ++ lb) W fun e W' => (∃ v, e = .returned v) ∧ (J xs W' ∨ ∃ pre, pre <+: xs ∧ Jx pre W')
def Kept2 (n0 : Nat) (W W' : World) : Prop := W'.heap[n0]? = W.heap[n0]? ∧ W'.heap[n0 + 1]? = W.heap[n0 + 1]?
/-- How a round's body may be left. -/
def roundP {α : Type} (n0 : Nat) (E : Nat → Prop) (I : List α → World → Prop) (Ix : Code → List α → World → Prop) (pre : List α) (W : World) : Exit → Act → World → Prop
  | .normal, _, W' => Kept2 n0 W W' ∧ KeepE n0 E W W' ∧ I pre W'
  | .ret, _, W' => Kept2 n0 W W' ∧ Ix .ret pre W'
  | .exit id, _, W' => Kept2 n0 W W' ∧ Ix (.exit id) pre W'
  | _, _, _ => False
theorem roundP_out {α : Type} {n0 : Nat} {E : Nat → Prop} {I : List α → World → Prop} {Ix : Code → List α → World → Prop} {pre : List α} {W : World} : ¬ LetsOut (roundP n0 E I Ix pre W) := fun ⟨_, _, h⟩ => h
theorem below_put {n0 l : Nat} {W : World} {o' : Obj} (h : n0 ≤ l) : Below n0 W (W.putObj l o') := ⟨rfl, rfl, rfl, by simp [World.putObj], fun i hi => World.putObj_heap_other (by omega)⟩
theorem keep_put {n0 l : Nat} {E : Nat → Prop} {W : World} {o o' : Obj} (h : n0 ≤ l) (hl : W.heap[l]? = some o) (hc : o.isCells = false) : KeepE n0 E W (W.putObj l o') := ⟨by simp [World.putObj], fun g q _ hq hh => by
  have hne : g ≠ l := fun e => by
    subst e
    rw [hl] at hq
    cases hq
    rcases hh with hh | hh
    · rw [hc] at hh; cases hh
    · omega
  exact (World.putObj_heap_other hne).trans hq⟩
theorem wp_rangeM {α : Type} {P : Program} {g : Operand} {p : Tmp} {assign body : Code} {Q : Exit → Act → World → Prop} {a : Act} {w : World} {gf : Nat} {ra lb : Array Value} {enc : α → Value} {xs : List α} {E : Nat → Prop}
    (hg : a.eval g = .func (.func gf) ra lb) (eg : ∀ args w, (callFunc gf args).run P w = .ok (.enter gf args) w) (I : List α → World → Prop) (Ix : Code → List α → World → Prop)
    (hI : ∀ p A B, I p A → Below w.heap.size A B → I p B) (hIx : ∀ c p A B, Ix c p A → Below w.heap.size A B → Ix c p B) (h0 : I [] w) (hiter : Iter P gf ra lb enc xs E w) (a₁ : α → Act)
    (hassign : ∀ (l : Nat) (x : α) (W : World) (K : Act → World → Prop), K (a₁ x) W → assign.wpIn (Fw (some l)) 0 P (Exit.then K (fun _ _ _ => False)) { tmps := a.tmps.setIfInBounds p (enc x), defers := [] } W)
    (hbody : ∀ (l : Nat) (pre : List α) (x : α) (W : World), I pre W → (pre ++ [x]) <+: xs → w.heap.size + 1 < W.heap.size → body.wpIn (Fw (some l)) 0 P (roundP w.heap.size E I Ix (pre ++ [x]) W) (a₁ x) W)
    (hdone : ∀ W, I xs W → W.heap[w.heap.size]? = some (.deferred (some [])) → Q .normal { a with defers := { target := .collected w.heap.size, args := #[] } :: a.defers } W)
    (hstop : ∀ c pre W, pre <+: xs → Ix c pre W → W.heap[w.heap.size]? = some (.deferred (some [])) → c.wp P Q { a with defers := { target := .collected w.heap.size, args := #[] } :: a.defers } W) :
    (Code.rangeFunc g #[p] assign body).wp P Q a w := by
  refine (wpIn_wide (n := 1)).1 (wpIn_rangeFunc fun fn _ => ?_)
  obtain ⟨rec, hrec⟩ : ∃ rec : LoopState → Option Code → Loop, rec = fun st pe => { state := st, pending := pe, fn, tmps := a.tmps, params := #[p], assign, body, defers := w.heap.size } := ⟨_, rfl⟩
  obtain ⟨W1, hW1⟩ : ∃ W1, (w.alloc (.deferred (some []))).alloc (.loop (rec .ready none)) = W1 := ⟨_, rfl⟩
  have hb1 : Below w.heap.size w W1 := by rw [← hW1]; exact ((Below.refl _ w).alloc (Nat.le_refl _) _).alloc (by simp) _
  have hs1 : W1.heap.size = w.heap.size + 1 + 1 := by rw [← hW1]; simp
  have hL1 : W1.heap[w.heap.size + 1]? = some (.loop (rec .ready none)) := by
    rw [← hW1]; have := World.alloc_heap_new (w.alloc (.deferred (some []))) (.loop (rec .ready none)); rwa [World.size_alloc] at this
  have hK1 : W1.heap[w.heap.size]? = some (.deferred (some [])) := by
    rw [← hW1]; exact (Below.heap_alloc _ _ _ (by simp)).trans (World.alloc_heap_new w _)
  refine ⟨w.heap.size + 1, [{ target := .collected w.heap.size, args := #[] }], W1, { target := .fn (.func gf) lb, args := ra ++ #[.func (.yield (w.heap.size + 1)) #[] #[]] }, W1, gf, ra ++ #[.func (.yield (w.heap.size + 1)) #[] #[]] ++ lb, W1, ?_, ?_, fun _ _ => trivial, ?_, (fun h => by cases h), ?_⟩
  · rw [← hW1, hrec]; exact run_enterLoop_outer _ _ _ _ _
  · simp only [resolve, hg]
    simp [go_sem]
  · simp [invoke, go_sem, eg]
  · refine (callsIn_wide.2 (hiter (w.heap.size + 1) (fun pre W => I pre W ∧ W.heap[w.heap.size + 1]? = some (.loop (rec .ready none)) ∧ W.heap[w.heap.size]? = some (.deferred (some [])))
      (fun pre W => ∃ c, Ix c pre W ∧ W.heap[w.heap.size + 1]? = some (.loop (rec .done (some c))) ∧ W.heap[w.heap.size]? = some (.deferred (some []))) W1 hb1 ?_ ?_ ?_ ⟨hI [] w W1 h0 hb1, hL1, hK1⟩)).mono ?_
    · rintro q A B ⟨h1, h2, h3⟩ hb
      exact ⟨hI q A B h1 (hb.mono (by omega)), (hb.block _ (by omega)).trans h2, (hb.block _ (by omega)).trans h3⟩
    · rintro q A B ⟨c, h1, h2, h3⟩ hb
      exact ⟨c, hIx c q A B h1 (hb.mono (by omega)), (hb.block _ (by omega)).trans h2, (hb.block _ (by omega)).trans h3⟩
    · rintro pre x W ⟨hi, hl, hk⟩ hpre
      have hlt : w.heap.size + 1 < W.heap.size := (Array.getElem?_eq_some_iff.1 hl).1
      have hy := run_yield (P := P) (args := #[enc x]) hl (by rw [hrec]; rfl)
      rw [hrec, show ((#[p] : Array Tmp).zip #[enc x]).foldl (fun (t : Array Value) (q : Tmp × Value) => t.setIfInBounds q.1 q.2) a.tmps = a.tmps.setIfInBounds p (enc x) by simp] at hy
      refine ⟨fn, _, assign, body, hy, roundIn_of_wpIn (F := Fence.wide) trivial (hassign (w.heap.size + 1) x W _ ⟨_, run_beginRound hl (by rw [hrec]), ?_⟩)⟩
      generalize hW2 : W.putObj (w.heap.size + 1) (.loop { rec .ready none with state := .busy }) = W2
      have hl2 : W2.heap[w.heap.size + 1]? = some (.loop { rec .ready none with state := .busy }) := by rw [← hW2]; exact World.putObj_heap_same hlt
      have hk2 : W2.heap[w.heap.size]? = some (.deferred (some [])) := by rw [← hW2]; exact (World.putObj_heap_other (by omega)).trans hk
      have hb2 : Below w.heap.size W W2 := by rw [← hW2]; exact below_put (by omega)
      have he2 : KeepE w.heap.size E W W2 := by rw [← hW2]; exact keep_put (by omega) hl rfl
      have hlt2 : w.heap.size + 1 < W2.heap.size := (Array.getElem?_eq_some_iff.1 hl2).1
      refine wpIn_mono (hbody _ pre x W2 (hI pre W W2 hi hb2) hpre hlt2) ?_
      have fin : ∀ (jump : Option Code) (W3 : World), Kept2 w.heap.size W2 W3 → (Instr.endRound (w.heap.size + 1) jump).run P W3 = .ok (.bool jump.isNone) (W3.putObj (w.heap.size + 1) (.loop (rec (if jump.isNone then .ready else .done) jump))) ∧
          (W3.putObj (w.heap.size + 1) (.loop (rec (if jump.isNone then .ready else .done) jump))).heap[w.heap.size + 1]? = some (.loop (rec (if jump.isNone then .ready else .done) jump)) ∧
          (W3.putObj (w.heap.size + 1) (.loop (rec (if jump.isNone then .ready else .done) jump))).heap[w.heap.size]? = some (.deferred (some [])) ∧ W3.heap[w.heap.size + 1]? = some (.loop { rec .ready none with state := .busy }) := fun jump W3 hk3 => by
        have hl3 := hk3.2.trans hl2
        have hr := run_endRound (P := P) jump hl3
        rw [hrec] at hr hl3 ⊢
        exact ⟨hr, World.putObj_heap_same (Array.getElem?_eq_some_iff.1 hl3).1, (World.putObj_heap_other (by omega)).trans (hk3.1.trans hk2), hl3⟩
      rintro e a3 W3 hp
      cases e with
      | normal =>
        obtain ⟨hk3, hkp3, hi3⟩ := hp
        obtain ⟨hr, hl4, hk4, hl3⟩ := fin none W3 hk3
        exact ⟨_, _, hr, .inl ⟨rfl, ⟨hI _ _ _ hi3 (below_put (by omega)), hl4, hk4⟩, (he2.trans hkp3).trans (keep_put (by omega) hl3 rfl)⟩⟩
      | ret =>
        obtain ⟨hk3, hi3⟩ := hp
        obtain ⟨hr, hl4, hk4, _⟩ := fin (some .ret) W3 hk3
        exact ⟨_, _, hr, .inr ⟨rfl, ⟨.ret, hIx _ _ _ _ hi3 (below_put (by omega)), hl4, hk4⟩, by have := (Array.getElem?_eq_some_iff.1 hl4).1; omega⟩⟩
      | exit id =>
        obtain ⟨hk3, hi3⟩ := hp
        obtain ⟨hr, hl4, hk4, _⟩ := fin (some (.exit id)) W3 hk3
        exact ⟨_, _, hr, .inr ⟨rfl, ⟨.exit id, hIx _ _ _ _ hi3 (below_put (by omega)), hl4, hk4⟩, by have := (Array.getElem?_eq_some_iff.1 hl4).1; omega⟩⟩
      | goto t => exact hp.elim
      | panic ch => exact hp.elim
      | outgrown => exact hp.elim
    · rintro e W2 ⟨⟨v, rfl⟩, (⟨hi, hl, hk⟩ | ⟨pre, hpre, c, hi, hl, hk⟩)⟩
      · exact ⟨none, _, by have := run_endLoop (P := P) hl (by rw [hrec]; simp); rw [hrec] at this; exact this, hdone _ (hI _ _ _ hi (below_put (by omega))) ((World.putObj_heap_other (by omega)).trans hk)⟩
      · exact ⟨some c, _, by have := run_endLoop (P := P) hl (by rw [hrec]; simp); rw [hrec] at this; exact this, wpIn_wide.2 (hstop c pre _ hpre (hIx _ _ _ _ hi (below_put (by omega))) ((World.putObj_heap_other (by omega)).trans hk))⟩
end Go.Proofs.Ytbeeiecbbmiojaa.Y

/- Walks within a round of a range over a function, and the end of a function that held one. No program in sight. -/
namespace Go.Proofs.Ytbeeiecbbmiojaa.Y
open Go.RowKit

/-- The mark that a range over a function leaves among the deferred calls. -/
abbrev mark (D : Nat) : Deferred := { target := .collected D, args := #[] }
section
variable {Df : List Deferred} {U : Prop} {P : Program} {Q : Exit → Act → World → Prop} {N : Nat} {e : Env} {F : Cell → Prop} {a : Act} {w : World} {n : Nat} {r : Option Nat}
theorem StE.condIn {b : Bool} {x y : Code} (h : StE U N e F a w Df) (s : Nat) (hK : e.lookup s = some (true, .bool b))
    (ht : b = true → x.wpIn (Fw r) n P Q a w) (hf : b = false → y.wpIn (Fw r) n P Q a w) : (Code.cond (.tmp s) x y).wpIn (Fw r) n P Q a w := by
  refine wpIn_cond (t := b) (h.get s hK) ?_
  cases b with
  | true => exact ht rfl
  | false => exact hf rfl
theorem flowTIn {id : Nat} {l : List Oper} {e' : Env} (hQo : ¬ LetsOut Q) (hd : l.all noDefer = true) (h : StE U N e F a w Df) (hN : l.all (fun o => o.dst.any fun d => decide (d < N)) = true)
    (hC : Chain U P l.toArray Q N e [] l e' []) (hQ : ∀ a' w', Below w.heap.size w w' → StE U N e' F a' w' Df → Q .normal a' w') : (Code.region id l.toArray false).wpIn (Fw r) n P Q a w := by
  refine reg_in hQo hd ?_
  have := chainT hC hN h (t := []) fun a' w' hb hs => hQ a' w' hb hs
  simpa using this
theorem flowCIn {id : Nat} {l : List Oper} {b : Bool} {e' : Env} (hm : P.follows .mixedOrders = true) (hQo : ¬ LetsOut Q) (hd : l.all noDefer = true) (h : StE U N e F a w) (hB : flowB l.toArray (e.map (·.1)) l.length N [l.length] = true) (hF : freshB (e.map (·.1)) (dstsOf l) = true)
    (hC : Chain U P l.toArray Q N e [] l e' []) (hQ : ∀ a' w', Below w.heap.size w w' → StE U N e' F a' w' → Q .normal a' w') : (Code.region id l.toArray b).wpIn (Fw r) n P Q a w := by
  cases b with
  | true => exact reg_any_in hm hQo (by simpa using hd) (any_flow h hB hC hF hQ)
  | false =>
    have hN : l.all (fun o => o.dst.any fun d => decide (d < N)) = true := List.all_eq_true.2 fun o ho => by
      obtain ⟨i, hi, rfl⟩ := List.getElem_of_mem ho
      obtain ⟨d, hd, hdN, _⟩ := (flowB_iff hB).dst i l[i] hi (fun h => by rw [List.mem_singleton.1 h] at hi; exact Nat.lt_irrefl _ hi) (by rw [List.getElem?_toArray]; exact List.getElem?_eq_getElem hi)
      rw [hd]
      simpa using hdN
    exact flowTIn hQo hd h hN hC hQ
/-- A loop within a round whose rounds spend from a store that no slot tells. -/
theorem wp_loopKIn {c : Code} (I : Nat → Act → World → Prop) (k : Nat) (h0 : I k a w) (round : ∀ k a w, I k a w → c.wpIn (Fw r) n P (Exit.then (fun a' w' => ∃ k', k' < k ∧ I k' a' w') Q) a w) : (Code.loop c).wpIn (Fw r) n P Q a w := by
  classical
  have ex : ∀ a w, (∃ k, I k a w) → ∃ n, I n a w ∧ ∀ m, I m a w → n ≤ m := fun a w h => exists_min h
  refine wpIn_loop (fun a w => ∃ k, I k a w) (fun a w => if h : ∃ k, I k a w then Classical.choose (ex a w h) else 0) ⟨k, h0⟩ fun a w h => ?_
  have hm := Classical.choose_spec (ex a w h)
  refine wpIn_mono (round _ a w hm.1) (fun e a' w' q => ?_)
  cases e with
  | normal =>
    obtain ⟨k', hlt, hI⟩ := q
    refine ⟨⟨k', hI⟩, ?_⟩
    rw [dif_pos h, dif_pos ⟨k', hI⟩]
    exact Nat.lt_of_le_of_lt ((Classical.choose_spec (ex a' w' ⟨k', hI⟩)).2 k' hI) hlt
  | _ => exact q
/-- What holds behind a piece of code. -/
theorem wp_cutM {c : Code} (M : Act → World → Prop) (h1 : c.wp P (Exit.then M (fun _ _ _ => False)) a w) (h2 : ∀ a w, M a w → Q .normal a w) : c.wp P Q a w := by
  refine Code.wp_mono (fun e a' w' q => ?_) h1
  cases e with
  | normal => exact h2 a' w' q
  | _ => exact q.elim
/-- A function's contract from its body, which may hold a range over a function. -/
theorem calls_marks {f : FuncId} {fn : Func} {c : Code} {args : Array Value} {w : World} {R : Ending → World → Prop} (hf : P.funcs[f]? = some fn) (hb : fn.body = some c)
    (h : c.wp P (bodyPostM Fence.wide 0 P fn R) { tmps := args ++ Array.replicate (fn.ntmps - args.size) undef, defers := [] } w) : Calls P f args w R :=
  callsIn_wide.1 (callsIn_of_wp_marks (n := 0) hf hb True.intro (wpIn_wide.2 h) rfl)
theorem endM0 {fn : Func} {v : Value} {R : Ending → World → Prop} (hd : a.defers = []) (hres : (results fn a.tmps).run P w = .ok v w) (hR : R (.returned v) w) : bodyPostM Fence.wide 0 P fn R .ret a w := by
  show LeavesInM _ _ _ _ _ _ a.defers .returning w
  rw [hd]
  exact ⟨v, hres, hR⟩
theorem endM1 {fn : Func} {v : Value} {D : Nat} {R : Ending → World → Prop} (hd : a.defers = [mark D]) (hK : w.heap[D]? = some (.deferred (some []))) (hres : (results fn a.tmps).run P (w.putObj D (.deferred none)) = .ok v (w.putObj D (.deferred none))) (hR : R (.returned v) (w.putObj D (.deferred none))) : bodyPostM Fence.wide 0 P fn R .ret a w := by
  show LeavesInM _ _ _ _ _ _ a.defers .returning w
  rw [hd]
  exact ⟨by simp, .inl ⟨D, _, rfl, run_takeDeferred hK, v, hres, hR⟩⟩
def LvRun (P : Program) (T : TypeId) : Prop := ∀ (w : World) (g : Nat) (v : Value), w.cell? ⟨g, 0, none⟩ = some v → (loadVar T ⟨g, 0, none⟩).run P w = .ok v w
theorem results_cell1 {fn : Func} {tmps : Array Value} {t T g : Nat} {v : Value} (hr : fn.results = #[.cell t T]) (ht : tmps.getD t undef = .pointer (some ⟨g, 0, none⟩)) (hl : (loadVar T ⟨g, 0, none⟩).run P w = .ok v w) : (results fn tmps).run P w = .ok v w := by
  have hp' : tmps[t]?.getD undef = .pointer (some ⟨g, 0, none⟩) := by simpa using ht
  simp [results, hr, hp', asAddr, hl]
theorem blk_cell0 {g : Nat} {T : TypeId} {v : Value} (h : Blk w g T #[v]) : w.cell? ⟨g, 0, none⟩ = some v := by
  rw [h.cell]; rfl
/-- The end: what a variable of one cell holds; no mark stands. -/
theorem ret_cM0 {fn : Func} {R : Value → World → Prop} {v : Value} {g T T' : Nat} (h : StE U N e F a w) (t : Nat) (hr : fn.results = #[.cell t T]) (hg : e.lookup t = some (true, .val (.pointer (some ⟨g, 0, none⟩)))) (hl : LvRun P T) (hB : Blk w g T' #[v]) (hR : R v w) : bodyPostM Fence.wide 0 P fn (fun e w' => ∃ v, e = .returned v ∧ R v w') .ret a w :=
  endM0 h.defers (results_cell1 hr (h.get t hg) (hl w g v (blk_cell0 hB))) ⟨_, rfl, hR⟩
/-- The end: what a variable of one cell holds; one mark stands. -/
theorem ret_cM1 {fn : Func} {R : Value → World → Prop} {v : Value} {g T T' D : Nat} (h : StE U N e F a w [mark D]) (t : Nat) (hr : fn.results = #[.cell t T]) (hg : e.lookup t = some (true, .val (.pointer (some ⟨g, 0, none⟩)))) (hl : LvRun P T) (hB : Blk w g T' #[v]) (hK : w.heap[D]? = some (.deferred (some []))) (hR : ∀ w', w.grownBy w' (some D) → R v w') : bodyPostM Fence.wide 0 P fn (fun e w' => ∃ v, e = .returned v ∧ R v w') .ret a w := by
  have G := grownBy_putObj' w D (.deferred none)
  have hne : g ≠ D := fun e => by
    subst e
    unfold Blk at hB
    rw [hK] at hB
    cases hB
  refine endM1 h.defers hK (results_cell1 hr (h.get t hg) (hl _ g v (blk_cell0 (hB.grown G (fun e => hne (by injection e)))))) ⟨_, rfl, hR _ G⟩
theorem dk_below {w' : World} {D : Nat} (h : w.heap[D]? = some (.deferred (some []))) (hb : Below w.heap.size w w') : w'.heap[D]? = some (.deferred (some [])) := (hb.block D (Array.getElem?_eq_some_iff.1 h).1).trans h
theorem dk_grown {w' : World} {D : Nat} {x : Option Nat} (h : w.heap[D]? = some (.deferred (some []))) (hg : w.grownBy w' x) (hn : some D ≠ x) : w'.heap[D]? = some (.deferred (some [])) := (hg.block D (Array.getElem?_eq_some_iff.1 h).1 hn).trans h
theorem dk_blk {D g : Nat} {T : TypeId} {cs : Array Value} (h : w.heap[D]? = some (.deferred (some []))) (hB : Blk w g T cs) : D ≠ g := fun e => by
  subst e
  unfold Blk at hB
  rw [h] at hB
  cases hB
/-- What a round begins with. -/
theorem ste_round {e2 : Env} {W : World} {p q : Nat} {x : Value} (h : StE False N e noF a w Df) (hv : ValsB e e2) (hp : decide (p < N) = true) (hq : decide (q < N) = true) : StE False N ((q, true, .val x) :: (p, true, .val x) :: e2) noF (({ tmps := a.tmps.setIfInBounds p x, defers := [] } : Act).put (some q) x) W := by
  have h0 : StE False N e noF { a with defers := [] } w := ⟨h.size, rfl, h.fok, h.known⟩
  have h1 : StE False N e2 noF { a with defers := [] } W := h0.vals (fok_no _ _) hv
  have kv : KnownV (true, .val x) W noF x := ⟨fun _ => rfl, fun e => by cases e⟩
  have h2 := h1.put (d := p) (Below.refl _ _) (by simpa using hp) kv
  exact h2.put (d := q) (Below.refl _ _) (by simpa using hq) kv
/-- A range over a method value, the walk's knowledge said by values. -/
theorem range_m {α : Type} {g : Operand} {p q id : Nat} {body : Code} {gf : Nat} {ra lb : Array Value} {enc : α → Value} {xs : List α} {E : Nat → Prop} {e2 : Env} {t : TypeId} {ps : String} {af : Array Edge}
    (hs : StE False N e noF a w) (hv : ValsB e e2) (hp : decide (p < N) = true) (hq : decide (q < N) = true) (hg : a.eval g = .func (.func gf) ra lb) (eg : ∀ args w, (callFunc gf args).run P w = .ok (.enter gf args) w) (I : List α → World → Prop) (Ix : Code → List α → World → Prop)
    (hI : ∀ p A B, I p A → Below w.heap.size A B → I p B) (hIx : ∀ c p A B, Ix c p A → Below w.heap.size A B → Ix c p B) (h0 : I [] w) (hiter : Iter P gf ra lb enc xs E w)
    (hbody : ∀ (l : Nat) (pre : List α) (x : α) (a' : Act) (W : World), I pre W → (pre ++ [x]) <+: xs → w.heap.size + 1 < W.heap.size → StE False N ((q, true, .val (enc x)) :: (p, true, .val (enc x)) :: e2) noF a' W → body.wpIn (Fw (some l)) 0 P (roundP w.heap.size E I Ix (pre ++ [x]) W) a' W)
    (hdone : ∀ a' W, I xs W → W.heap[w.heap.size]? = some (.deferred (some [])) → StE False N e2 noF a' W [mark w.heap.size] → Q .normal a' W)
    (hstop : ∀ c pre a' W, pre <+: xs → Ix c pre W → W.heap[w.heap.size]? = some (.deferred (some [])) → StE False N e2 noF a' W [mark w.heap.size] → c.wp P Q a' W) :
    (Code.rangeFunc g #[p] (.region id [⟨some q, .assign (.tmp p), t, ps, af, none⟩].toArray false) body).wp P Q a w := by
  have hpq : p < a.tmps.size := by rw [hs.size]; simpa using hp
  have fin : ∀ W, StE False N e2 noF { a with defers := mark w.heap.size :: a.defers } W [mark w.heap.size] := fun W => by
    have h1 := hs.vals (F' := noF) (w' := W) (fok_no _ _) hv
    exact ⟨h1.size, by show mark w.heap.size :: a.defers = _; rw [hs.defers], h1.fok, h1.known⟩
  refine wp_rangeM (xs := xs) (enc := enc) hg eg I Ix hI hIx h0 hiter (fun x => ({ tmps := a.tmps.setIfInBounds p (enc x), defers := [] } : Act).put (some q) (enc x)) (fun l x W K hK => ?_) (fun l pre x W hi hpre hlt => hbody l pre x _ W hi hpre hlt (ste_round hs hv hp hq)) (fun W hi hd => hdone _ W hi hd (fin W)) (fun c pre W hpre hx hd => hstop c pre _ W hpre hx hd (fin W))
  refine reg_in (fun ⟨_, _, h⟩ => h) rfl (wpList_plain rfl fun K' hK' => ?_)
  have hval : ({ tmps := a.tmps.setIfInBounds p (enc x), defers := [] } : Act).eval (.tmp p) = enc x := by
    show (a.tmps.setIfInBounds p (enc x)).getD p undef = enc x
    exact getD_put_eq hpq
  unfold Oper.wp
  simp only [execOp, hval, Sem.run_pure]
  exact hK' _ _ hK
end
end Go.Proofs.Ytbeeiecbbmiojaa.Y
