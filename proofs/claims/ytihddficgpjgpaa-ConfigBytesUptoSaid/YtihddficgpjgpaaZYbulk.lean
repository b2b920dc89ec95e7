/- Laws of the second form: what comes in is of a bounded bulk; the row's step for them. No program in sight. -/
import Derived.Test.YtihddficgpjgpaaZYopen
import Derived.JoinedCond
namespace Go.Proofs.Ytihddficgpjgpaa.Y
open Go.RowKit Go.WideShapes Go.ChangeShapes Go.ChangeAt
theorem bulk_one {H : Type} (d : DataW H) : 1 ≤ Rows.uptoBulk d := by
  cases d with
  | lit l => cases l <;> simp [Rows.uptoBulk]
  | nil => simp [Rows.uptoBulk]
  | ptr d => simp [Rows.uptoBulk]
  | slice elems spare => simp [Rows.uptoBulk]
  | agg parts => simp [Rows.uptoBulk]
  | iface t d => simp [Rows.uptoBulk]
  | map entries => simp [Rows.uptoBulk]
  | held h => simp [Rows.uptoBulk]
theorem bulk_part {H : Type} {d : DataW H} {l : List (DataW H)} (h : d ∈ l) : Rows.uptoBulk d ≤ Rows.uptoBulkAll l := by
  induction l with
  | nil => cases h
  | cons x r ih =>
    simp only [Rows.uptoBulkAll]
    cases List.mem_cons.1 h with
    | inl e => subst e; omega
    | inr e => have := ih e; omega
theorem bulk_len {H : Type} (l : List (DataW H)) : l.length ≤ Rows.uptoBulkAll l := by
  induction l with
  | nil => simp [Rows.uptoBulkAll]
  | cons x r ih => have := bulk_one x; simp only [Rows.uptoBulkAll, List.length_cons]; omega
def OpensB {α : Type} (n : Nat) (P : Program) (T : TypeId) (L : Lay α) (ok : α → Prop) : Prop :=
  ∀ {H : Type} (enc : TypeId × Value → H) (w : World) (fuel : Nat) (cs : List Value) (d : DataW H) (ps : List MemPlace), DataW.trod enc P w 0 (fun _ => true) true fuel T cs = some (d, ps) → (∀ p ∈ ps, p.block < w.heap.size) → Rows.uptoBulk d ≤ n → ∃ x, ok x ∧ L.on w noF cs x
section
variable {P : Program} {n : Nat}
theorem opensB_of {α : Type} {L : Lay α} {ok : α → Prop} {T : TypeId} (h : Opens P T L ok) : OpensB n P T L ok := fun enc w fuel cs d ps ht hlt _ => h enc w fuel cs d ps ht hlt
theorem opensB_slice {α : Type} {L : Lay α} {ok : α → Prop} {T e : TypeId} (i : Inhabited α) (ht : P.underlying T = some (.slice e)) (hn : P.cellsOf e = L.n) (hp : 0 < L.n) (he : OpensB n P e L ok) : OpensB n P T (Lay.sl L) (fun l => l.length ≤ n ∧ l.length ≤ maxLen ∧ ∀ x ∈ l, ok x) := fun {H} enc w fuel cs d ps h hlt hB => by
  rcases Go.Deep.open_slice ht h with ⟨rfl, _⟩ | ⟨a, len, cap, m, k, D, Pl, rfl, hb, hl, hm, hmm, hx, hi⟩
  · exact ⟨[], ⟨Nat.zero_le _, Nat.zero_le _, fun x h => by cases h⟩, none, 0, rfl, fun h => absurd h (by simp), Nat.le_refl _⟩
  · simp only [if_true] at hmm
    subst hmm
    simp only [Prod.mk.injEq] at hx
    rw [hn] at hi hx
    have hall : Rows.uptoBulkAll ((List.range len).map D) ≤ n := by
      rw [hx.1] at hB
      simp only [Rows.uptoBulk] at hB
      omega
    have hlen : len ≤ n := by
      have := bulk_len ((List.range len).map D)
      rw [List.length_map, List.length_range] at this
      omega
    have each : ∀ i, i < len → ∃ x : α, ∃ cs' : List Value, cs'.length = L.n ∧ (∀ j (hj : j < cs'.length), w.cell? ((a.add (i * L.n)).add j) = some cs'[j]) ∧ (ok x ∧ L.on w noF cs' x) := by
      intro i hi'
      obtain ⟨cs', hc, htr⟩ := hi i (by omega)
      obtain ⟨_, hcl, hat⟩ := World.cells?_some hc
      obtain ⟨x, hx'⟩ := he enc w _ _ _ _ htr (fun p hp => hlt p (by
        rw [hx.2]
        exact List.mem_append_right _ (List.mem_flatMap.2 ⟨i, List.mem_range.2 (by omega), hp⟩))) (by
        have := bulk_part (d := D i) (l := (List.range len).map D) (List.mem_map.2 ⟨i, List.mem_range.2 hi', rfl⟩)
        omega)
      exact ⟨x, cs', hcl, fun j hj => by rw [hat j (by omega)]; exact List.getElem?_eq_getElem hj, hx'⟩
    obtain ⟨f, hf⟩ := Go.Deep.choose_lt each
    refine ⟨(List.range len).map f, ⟨by simp; omega, by simp; omega, fun x hx' => ?_⟩, some a, m, by simp, fun hl0 => ?_, by simp; omega⟩
    · obtain ⟨i, hi', rfl⟩ := List.mem_map.1 hx'
      obtain ⟨_, _, _, h3, _⟩ := hf i (List.mem_range.1 hi')
      exact h3
    · have hl0' : 0 < len := by simpa using hl0
      obtain ⟨b, off, spot⟩ := a
      have hspot : spot = none := by
        obtain ⟨cs', hcl, hat, _⟩ := hf 0 hl0'
        have h0 := hat 0 (by omega)
        have : (((⟨b, off, spot⟩ : Addr).add (0 * L.n)).add 0) = ⟨b, off, spot⟩ := by simp [Addr.add]
        rw [this] at h0
        exact World.cell?_spot h0
      subst hspot
      refine ⟨b, off, rfl, ?_, fun i hi' => ?_⟩
      · refine hlt (.cell b off) ?_
        rw [hx.2]
        refine List.mem_append_left _ ?_
        unfold MemPlace.row
        exact List.mem_map.2 ⟨0, List.mem_range.2 (Nat.mul_pos (by omega) hp), by simp⟩
      · obtain ⟨cs', hcl, hat, _, hr⟩ := hf i (by simpa using hi')
        refine ⟨cs', by simpa using hr, fun j hj => ⟨fun h => h, ?_⟩⟩
        rw [← add_none, ← add_none]
        exact hat j hj
theorem opensB_via {α β : Type} {L : Lay α} {ok : α → Prop} {ok' : β → Prop} {T : TypeId} {f : β → α} (g : α → β) (hg : ∀ x, f (g x) = x) (hok : ∀ x, ok x → ok' (g x)) (h : OpensB n P T L ok) : OpensB n P T (L.via f) ok' := fun enc w fuel cs d ps ht hlt hB => by
  obtain ⟨x, h1, h2⟩ := h enc w fuel cs d ps ht hlt hB
  exact ⟨g x, hok x h1, by show L.on w noF cs (f (g x)); rw [hg]; exact h2⟩
/-- Fields, from a cell on. -/
def OpensFsB {α : Type} (n : Nat) (P : Program) (fs : List Field) (off : Nat) (L : Lay α) (ok : α → Prop) : Prop :=
  ∀ {H : Type} (enc : TypeId × Value → H) (w : World) (k : Nat) (cs : List Value) (xs : List (DataW H × List MemPlace)), (∀ (i : Nat) (f : Field), fs[i]? = some f → DataW.trod enc P w 0 (fun _ => true) true k f.type ((cs.drop f.offset).take (P.cellsOf f.type)) = xs[i]?) →
    xs.length = fs.length → (∀ p ∈ xs.flatMap (·.2), p.block < w.heap.size) → (∀ x ∈ xs, Rows.uptoBulk x.1 ≤ n) → cs.length = off + L.n → ∃ x, ok x ∧ L.on w noF (cs.drop off) x
theorem fsB_last {α : Type} {L : Lay α} {ok : α → Prop} {f : Field} {off : Nat} (ho : f.offset = off) (hn : P.cellsOf f.type = L.n) (h : OpensB n P f.type L ok) : OpensFsB n P [f] off L ok := fun enc w k cs xs hx hl hlt hB hc => by
  match xs, hl with
  | [y], _ =>
    have h0 := hx 0 f rfl
    rw [ho, hn] at h0
    have e1 : (cs.drop off).take L.n = cs.drop off := List.take_of_length_le (by simp; omega)
    rw [e1] at h0
    exact h enc w k _ y.1 y.2 h0 (fun p hp => hlt p (by simpa using hp)) (hB y (by simp))
theorem fsB_cons {α β : Type} {A : Lay α} {B : Lay β} {okA : α → Prop} {okB : β → Prop} {f : Field} {fs : List Field} {off : Nat} (ho : f.offset = off) (hn : P.cellsOf f.type = A.n) (h : OpensB n P f.type A okA) (hr : OpensFsB n P fs (off + A.n) B okB) : OpensFsB n P (f :: fs) off (A.pr B) (fun x => okA x.1 ∧ okB x.2) := fun enc w k cs xs hx hl hlt hB hc => by
  match xs, hl with
  | y :: ys, hl =>
    have h0 := hx 0 f rfl
    rw [ho, hn] at h0
    obtain ⟨x1, o1, l1⟩ := h enc w k _ y.1 y.2 h0 (fun p hp => hlt p (by simp; exact .inl hp)) (hB y (by simp))
    have hc' : cs.length = off + (A.n + B.n) := hc
    obtain ⟨x2, o2, l2⟩ := hr enc w k cs ys (fun i f' hf => hx (i + 1) f' hf) (by simpa using hl) (fun p hp => hlt p (by simp at hp ⊢; exact .inr hp)) (fun x hx => hB x (List.mem_cons_of_mem _ hx)) (by omega)
    refine ⟨(x1, x2), ⟨o1, o2⟩, (cs.drop off).take A.n, cs.drop (off + A.n), ?_, l1, l2⟩
    rw [← List.drop_drop, List.take_append_drop]
theorem opensB_struct {α : Type} {L : Lay α} {ok : α → Prop} {T : TypeId} {fs : List Field} (ht : P.underlying T = some (.struct fs.toArray)) (hn : P.cellsOf T = L.n) (h : OpensFsB n P fs 0 L ok) : OpensB n P T L ok := fun enc w fuel cs d ps hd hlt hB => by
  obtain ⟨xs, k, _, hx, hl, hlen, hf⟩ := DataW.trod_struct ht hd
  simp only [Prod.mk.injEq] at hx
  have := h enc w k cs xs (fun i f hi => hf i f (by simpa using hi)) (by simpa using hlen) (fun p hp => hlt p (by rw [hx.2]; exact hp)) (fun x hx' => by
    rw [hx.1] at hB
    simp only [Rows.uptoBulk] at hB
    have := bulk_part (d := x.1) (l := xs.map (·.1)) (List.mem_map.2 ⟨x, hx', rfl⟩)
    omega) (by omega)
  simpa using this
/-- A parameter, opened. -/
theorem openB_st {H : Type} {enc : TypeId × Value → H} {w : World} {base : Nat} {α : Type} {L : Lay α} {ok : α → Prop} {T : TypeId} {r : Reach} {v : Value} {d : DataW H} {ps : List MemPlace} {ty : TypeDesc} (ht : P.underlying T = some ty) (hty : ty.isRow = true) (ho : OpensB n P T L ok)
    (hv : Value.okWide P w r base T v) (h : DataW.Trod enc P w 0 (fun _ => true) true T v d ps) (hlt : ∀ p ∈ ps, p.block < w.heap.size) (hB : Rows.uptoBulk d ≤ n) : ∃ x, ok x ∧ (Sym.st L x).on w noF v := by
  obtain ⟨cs, rfl⟩ : ∃ cs, v = .agg cs := by
    simp only [Value.okWide, ht] at hv
    cases ty <;> simp [TypeDesc.isRow] at hty <;> exact ⟨_, hv.choose_spec.1⟩
  obtain ⟨fuel, hf⟩ := h
  obtain ⟨x, h1, h2⟩ := ho enc w fuel _ d ps hf hlt hB
  exact ⟨x, h1, cs.toList, by simp, h2⟩
end
section
variable {H : Type} {enc : TypeId × Value → H}
theorem liftedU_of {C : Checked} {os : Os} {f : FuncId} {fn : Func} {s : ChangeSpec} {F : Stop.Interp} {bt : TypeId} {conds : List PathCond} (hl : laidOutB C.prog = true) (own : ownKnob C.prog.godebug = none) (started : os.Started)
    (noInit : C.prog.inits.idxOf? f = none) (hfn : C.prog.funcs[f]? = some fn)
    (hres : fn.resultTypes = #[bt]) (hbt : C.prog.underlying bt = some .bool) (hread : fn.params.toList.all (fun t => C.prog.readableRec t && decide (t < C.prog.types.size)) = true)
    (hvars : s.vars = []) (hspec : ∀ ds : List (DataW H), ds.length = fn.params.size → s.fn H ds = { results := [.lit (.bool true)], args := ds })
    (witness : ∃ (w : World) (tape : Tape) (i : Input), w.os = os ∧ (w.forCall tape i).Shaped C.prog ∧ i.vars = [] ∧ Input.okWide C.prog (w.forCall tape i) .any w.heap.size f i ∧
      (Rows.OpenSpec.upto s).pre6 enc C.prog fn conds false (w.forCall tape i).memory i.args ∧ ({} : Assume).holds C.prog (lone (Frame.enter C.prog f i.args .normal) [] (w.forCall tape i)))
    (walk : ∀ (W : World) (base : Nat) (args : Array Value) (ds : List (DataW H)) (ps : List MemPlace),
      (∀ (j : Nat) t v, fn.params[j]? = some t → args[j]? = some v → Value.okWide C.prog W .any base t v) →
      DataW.TrodAll enc C.prog W 0 (fun _ => true) true fn.params.toList args.toList ds ps →
      (∀ x ∈ ps, x.block < W.heap.size) → Rows.uptoBulkAll ds ≤ 1048576 →
      Calls C.prog f args W fun e W' => e = .returned (.bool true) ∧ Below W.heap.size W W') :
    ReturnsInHanded {} C os f .any ((Rows.OpenSpec.upto s).pre6 enc C.prog fn conds false) (((Rows.OpenSpec.upto s).at F).post enc C.prog fn false true false false) := by
  refine returnsInHanded_of_cond (C := C) (s := Rows.OpenSpec.upto s) (k := Rows.uptoSmall) rfl own started noInit hfn witness ?_
  intro W base args ds gs before hval hW _ hk _
  have hlt : ∀ x ∈ before, x.block < W.heap.size := fun x hx => hW.lt x hx
  have hW' := hW
  obtain ⟨p, q, hA, hV, rfl, hfz, hnd⟩ := hW
  have hV' : DataW.TrodVars enc C.prog W (fun _ => true) s.vars gs q := hV
  rw [hvars] at hV'
  obtain ⟨rfl, rfl⟩ := trodVars_none hV'
  have hlen : ds.length = fn.params.size := by
    have : ∀ (ts : List TypeId) (vs : List Value) (ds : List (DataW H)) (ps : List MemPlace), DataW.TrodAll enc C.prog W 0 (fun _ => true) true ts vs ds ps → ds.length = ts.length := by
      intro ts
      induction ts with
      | nil => intro vs ds ps h; cases vs <;> cases ds <;> simp_all [DataW.TrodAll]
      | cons t ts ih =>
        intro vs ds ps h
        cases vs <;> cases ds <;> simp [DataW.TrodAll] at h
        obtain ⟨_, _, _, h2, _⟩ := h
        simp [ih _ _ _ h2]
    simpa using this _ _ _ _ hA
  have hps : ∀ x ∈ p, x.block < W.heap.size := fun x hx => hlt x (List.mem_append_left _ hx)
  rw [List.append_nil] at hk
  refine (walk W base args ds p hval hA hps (of_decide_eq_true hk)).mono fun e W' ⟨he, hb⟩ => ?_
  subst he
  refine ⟨_, rfl, ds, [], _, [], p, [], hW', ?_, ?_, ?_, hb.frame _, fun h => by cases h⟩
  · rw [List.append_nil]
    show DataW.TrodAll enc C.prog W' _ _ _ fn.resultTypes.toList _ (s.fn H ds).results _
    rw [hspec ds hlen, hres]
    exact trodAll_mk1 (shut_bool hbt _)
  · rw [List.append_nil]
    show DataW.TrodAll enc C.prog W' _ _ _ fn.params.toList _ (s.fn H ds).args _
    rw [hspec ds hlen]
    exact trodAll_below hl hb _ _ _ _ hread hA hps
  · show DataW.TrodVars enc C.prog W' _ s.vars _ _
    rw [hvars, List.append_nil]
    show DataW.TrodVars enc C.prog W' _ [] (s.fn H ds).vars _
    rw [hspec ds hlen]
    rfl
end
end Go.Proofs.Ytihddficgpjgpaa.Y
