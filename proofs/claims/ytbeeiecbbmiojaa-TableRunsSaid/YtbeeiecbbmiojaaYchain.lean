/- Regions told operation by operation: what is known of the slots is a list that grows. No program in sight. -/
import Derived.Test.YtbeeiecbbmiojaaYflow
namespace Go.Proofs.Ytbeeiecbbmiojaa.Y
open Go.RowKit
variable {Df : List Deferred}

section
variable {U : Prop} {P : Program} {ops : Array Oper} {Q : Exit → Act → World → Prop} {N : Nat} {e : Env}

/-- What is known of an operand where the operation runs. -/
def OpdE (e : Env) (c : Bool) (x : Operand) (y : Sym) : Prop := ∀ a w F, (∀ s ∈ slotsOf x, SlotOK e F a w s) → c = true → y.on w F (a.eval x)
theorem od {s : Nat} {cs c : Bool} {y : Sym} (h : e.lookup s = some (cs, y)) (hc : c = true → cs = true) : OpdE e c (.tmp s) y := fun _ _ _ hk hcc => (hk s (by simp [slotsOf]) _ h).1 (hc hcc)
/-- A value that is known outright. -/
def Sym.val (x : Value) : Sym := ⟨fun _ _ v => v = x, fun h _ _ => h⟩
def Sym.any : Sym := ⟨fun _ _ _ => True, fun h _ _ => h⟩
theorem oc {c : Bool} (v : Value) : OpdE e c (.const v) (.val v) := fun _ _ _ _ _ => rfl
abbrev Sym.bool (b : Bool) : Sym := .val (.bool b)
abbrev Sym.int (k : IntKind) (n : Int) : Sym := .val (.int k n)

/-- Where an operation runs. -/
def GdE (ops : Array Oper) (e : Env) (g : Option (Nat × Bool)) (c : Bool) : Prop :=
  ∀ a w F o, o.guard = g → (∀ s ∈ guardSlots ops o, SlotOK e F a w s) → Region.wanted o (yielded ops a.tmps) = c
theorem g0 : GdE ops e none true := fun a w F o hg _ => by simp [Region.wanted, hg]
theorem g1 {g sg : Nat} {b cg x : Bool} (hs : (ops[g]?).bind (·.dst) = some sg) (h : e.lookup sg = some (cg, .bool x)) : GdE ops e (some (g, b)) (cg && (x == b)) := fun a w F o hg hk => by
  have hk := hk sg (by simp [guardSlots, hg, hs]) _ h
  have hy : ∀ u, a.tmps.getD sg undef = .bool u → yielded ops a.tmps g = some u := fun u hu => by
    unfold yielded
    rw [hs]
    rw [Array.getD_eq_getD_getElem?] at hu
    cases hq : a.tmps[sg]? with
    | none => rw [hq] at hu; cases hu
    | some q => rw [hq] at hu; simp at hu; subst hu; simp [hq]
  have hn : a.tmps.getD sg undef = undef → yielded ops a.tmps g = none := fun hu => by
    unfold yielded
    rw [hs]
    rw [Array.getD_eq_getD_getElem?] at hu
    cases hq : a.tmps[sg]? with
    | none => simp [hq]
    | some q => rw [hq] at hu; simp at hu; subst hu; simp [hq, undef]
  simp only [Region.wanted, hg]
  cases cg with
  | true => rw [hy x (hk.1 rfl)]; cases x <;> cases b <;> rfl
  | false => rw [hn (hk.2 rfl)]; rfl

/-- An operation pays: what it yields. -/
def Pays (U : Prop) (P : Program) (ops : Array Oper) (Q : Exit → Act → World → Prop) (N : Nat) (e : Env) (o : Oper) (k : Bool × Sym) : Prop :=
  ∀ (a : Act) (w : World) (F : Cell → Prop), a.tmps.size = N → FOK U F w → (∀ s ∈ usesOf ops o, SlotOK e F a w s) → ∀ R : Act → World → Prop,
    (∀ v w', Below w.heap.size w w' → KnownV k w' F v → R (a.put o.dst v) w') →
    if Region.wanted o (yielded ops a.tmps) then o.wp P a w R Q else R (a.put o.dst undef) w
/-- An operation makes a variable. -/
def Makes (U : Prop) (P : Program) (ops : Array Oper) (Q : Exit → Act → World → Prop) (N : Nat) (e : Env) (o : Oper) (T : TypeId) (z : Array Value) : Prop :=
  (∀ (a : Act) (w : World) (F : Cell → Prop), a.tmps.size = N → (∀ s ∈ usesOf ops o, SlotOK e F a w s) → ∀ R : Act → World → Prop,
    (∀ v w', Below w.heap.size w w' → v = .pointer (some ⟨w.heap.size, 0, none⟩) → Blk w' w.heap.size T z → w.heap.size < w'.heap.size → R (a.put o.dst v) w') →
    if Region.wanted o (yielded ops a.tmps) then o.wp P a w R Q else R (a.put o.dst undef) w) ∧ (U → ∀ (i : Nat) (x : Int), z[i]? ≠ some (.int .u32 x))
/-- The operations, one behind the other. -/
def Chain (U : Prop) (P : Program) (ops : Array Oper) (Q : Exit → Act → World → Prop) (N : Nat) : Env → Made → List Oper → Env → Made → Prop
  | e, al, [], e', al' => e' = e ∧ al' = al
  | e, al, o :: t, e', al' => (∃ d, o.dst = some d ∧ ((∃ k, Pays U P ops Q N e o k ∧ Chain U P ops Q N ((d, k) :: e) al t e' al') ∨ (∃ T z, Makes U P ops Q N e o T z ∧ Chain U P ops Q N ((d, true, .any) :: e) ((d, T, z) :: al) t e' al'))) ∨ (o.dst = none ∧ Chain U P ops Q N e al t e' al')
section
variable {al al' : Made} {e' : Env} {o : Oper} {t : List Oper} {d : Nat} {k : Bool × Sym}
theorem cn : Chain U P ops Q N e al [] e al := ⟨rfl, rfl⟩
theorem cc (hd : o.dst = some d) (hp : Pays U P ops Q N e o k) (hr : Chain U P ops Q N ((d, k) :: e) al t e' al') : Chain U P ops Q N e al (o :: t) e' al' := .inl ⟨d, hd, .inl ⟨k, hp, hr⟩⟩
theorem ca {T : TypeId} {z : Array Value} (hd : o.dst = some d) (hp : Makes U P ops Q N e o T z) (hr : Chain U P ops Q N ((d, true, .any) :: e) ((d, T, z) :: al) t e' al') : Chain U P ops Q N e al (o :: t) e' al' := .inl ⟨d, hd, .inr ⟨T, z, hp, hr⟩⟩
/-- A store among them, told apart. -/
theorem cs (hd : o.dst = none) (hr : Chain U P ops Q N e al t e' al') : Chain U P ops Q N e al (o :: t) e' al' := .inr ⟨hd, hr⟩
end

def freshB (ks : List Nat) : List Nat → Bool
  | [] => true
  | d :: t => !ks.contains d && freshB (d :: ks) t
theorem lookup_none {α : Type} {e : List (Nat × α)} {s : Nat} (h : (e.map (·.1)).contains s = false) : e.lookup s = none := by
  cases hl : e.lookup s with
  | none => rfl
  | some k =>
    exfalso
    have : s ∈ e.map (·.1) := by
      clear h
      induction e with
      | nil => cases hl
      | cons p t ih =>
        rw [show p = (p.1, p.2) from rfl, List.lookup_cons] at hl
        cases hs : s == p.1 with
        | true => simp at hs; simp [hs]
        | false => rw [hs] at hl; exact List.mem_map.2 (by obtain ⟨q, h1, h2⟩ := List.mem_map.1 (ih hl); exact ⟨q, List.mem_cons_of_mem _ h1, h2⟩)
    rw [List.contains_iff_mem.2 this] at h
    cases h
theorem lookup_some {α : Type} {e : List (Nat × α)} {s : Nat} (h : s ∈ e.map (·.1)) : ∃ k, e.lookup s = some k := by
  induction e with
  | nil => cases h
  | cons p t ih =>
    rw [show p = (p.1, p.2) from rfl, List.lookup_cons]
    cases hb : s == p.1 with
    | true => exact ⟨_, rfl⟩
    | false =>
      rcases List.mem_cons.1 h with rfl | h
      · simp at hb
      · exact ih h
theorem lookup_mem {α : Type} {e : List (Nat × α)} {s : Nat} {k : α} (h : e.lookup s = some k) : s ∈ e.map (·.1) := by
  cases hc : (e.map (·.1)).contains s with
  | true => exact List.contains_iff_mem.1 hc
  | false => rw [lookup_none hc] at h; cases h

structure ChainOK (U : Prop) (P : Program) (ops : Array Oper) (Q : Exit → Act → World → Prop) (N : Nat) (e : Env) (al : Made) (l : List Oper) (e' : Env) (al' : Made) : Prop where
  ext : ∀ s k, e.lookup s = some k → e'.lookup s = some k
  exta : ∀ s k, al.lookup s = some k → al'.lookup s = some k
  keys : ∀ s k, e'.lookup s = some k → s ∈ e.map (·.1) ++ dstsOf l
  keya : ∀ s k, al'.lookup s = some k → s ∈ al.map (·.1) ++ dstsOf l
  made : ∀ s q, al'.lookup s = some q → al.lookup s = none → e'.lookup s = some (true, .any)
  ok : ∀ K : Nat → Bool × Sym, (∀ s k, e'.lookup s = some k → K s = k) → ∀ (i : Nat) (o : Oper), l[i]? = some o → o.dst ≠ none → OpOK U P ops Q K al' N o
theorem chain_ok : ∀ {l : List Oper} {e e' : Env} {al al' : Made}, Chain U P ops Q N e al l e' al' → freshB (e.map (·.1)) (dstsOf l) = true → (∀ s ∈ al.map (·.1), s ∈ e.map (·.1)) →
    ChainOK U P ops Q N e al l e' al'
  | [], e, e', al, al', h, _, _ => by
    obtain ⟨rfl, rfl⟩ := h
    exact ⟨fun _ _ h => h, fun _ _ h => h, fun s k hk => List.mem_append_left _ (lookup_mem hk), fun s k hk => List.mem_append_left _ (lookup_mem hk), (fun s q h1 h2 => by rw [h1] at h2; cases h2), fun _ _ i o h => by simp at h⟩
  | o :: t, e, e', al, al', .inr ⟨hd, hr⟩, hf, hsub => by
    have e1 : dstsOf (o :: t) = dstsOf t := by simp [dstsOf, hd]
    rw [e1] at hf
    have I := chain_ok hr hf hsub
    refine ⟨I.ext, I.exta, fun s k h => by rw [e1]; exact I.keys s k h, fun s k h => by rw [e1]; exact I.keya s k h, I.made, fun K hK i o' h hne => ?_⟩
    rcases i with _ | i
    · simp at h; subst h; exact absurd hd hne
    · exact I.ok K hK i o' (by simpa using h) hne
  | o :: t, e, e', al, al', .inl ⟨d, hd, hc⟩, hf, hsub => by
    have e1 : dstsOf (o :: t) = d :: dstsOf t := by simp [dstsOf, hd]
    rw [e1] at hf
    have hf' : (!(e.map (·.1)).contains d && freshB (d :: e.map (·.1)) (dstsOf t)) = true := hf
    simp only [Bool.and_eq_true, Bool.not_eq_true'] at hf'
    obtain ⟨h1, h2⟩ := hf'
    have hnd : d ∉ e.map (·.1) := fun h => by rw [List.contains_iff_mem.2 h] at h1; cases h1
    have hal : al.lookup d = none := by
      cases hl : al.lookup d with
      | none => rfl
      | some q => exact absurd (hsub d (lookup_mem hl)) hnd
    have lift : ∀ (k : Bool × Sym) (s : Nat) (k' : Bool × Sym), e.lookup s = some k' → ((d, k) :: e : Env).lookup s = some k' := fun k s k' hs => by
      rw [List.lookup_cons]
      cases hb : s == d with
      | true => simp at hb; subst hb; exact absurd (lookup_mem hs) hnd
      | false => exact hs
    have keys : ∀ (k : Bool × Sym) (s : Nat), s ∈ ((d, k) :: e : Env).map (·.1) ++ dstsOf t → s ∈ e.map (·.1) ++ dstsOf (o :: t) := fun k s h => by
      rw [e1]
      simp only [List.map_cons, List.cons_append, List.mem_cons, List.mem_append] at h ⊢
      rcases h with h | h | h
      · exact .inr (.inl h)
      · exact .inl h
      · exact .inr (.inr h)
    rcases hc with ⟨k, hp, hr⟩ | ⟨T, z, hp, hr⟩
    · have I := chain_ok hr h2 (fun s hs => List.mem_cons_of_mem _ (hsub s hs))
      have hald : al'.lookup d = none := by
        cases hl : al'.lookup d with
        | none => rfl
        | some q =>
          exfalso
          rcases List.mem_append.1 (I.keya d q hl) with h | h
          · exact hnd (hsub d h)
          · have : ∀ (l ks : List Nat), freshB ks l = true → d ∈ ks → d ∉ l := by
              intro l
              induction l with
              | nil => intro _ _ _ h; cases h
              | cons x t ih =>
                intro ks hf hm hx
                have hf' : (!ks.contains x && freshB (x :: ks) t) = true := hf
                simp only [Bool.and_eq_true, Bool.not_eq_true'] at hf'
                rcases List.mem_cons.1 hx with rfl | hx
                · rw [List.contains_iff_mem.2 hm] at hf'; exact absurd hf'.1 (by simp)
                · exact ih _ hf'.2 (List.mem_cons_of_mem _ hm) hx
            exact this _ _ h2 List.mem_cons_self h
      refine ⟨fun s k' hs => I.ext s k' (lift k s k' hs), I.exta, fun s k' hs => keys k s (I.keys s k' hs), fun s q hs => ?_, I.made, fun K hK i o' hio hne => ?_⟩
      · rw [e1]
        rcases List.mem_append.1 (I.keya s q hs) with h | h
        · exact List.mem_append_left _ h
        · exact List.mem_append_right _ (List.mem_cons_of_mem _ h)
      · rcases i with _ | i
        rotate_left
        · exact I.ok K hK i o' (by simpa using hio) hne
        simp at hio; subst hio
        intro a w F hsz hF hk R hR
        refine hp a w F hsz hF (fun s hs k' hk' => ?_) R (fun v w' hb hv => hR v w' hb (fun d' hd' => ?_))
        · have := hk s hs
          rw [hK s k' (I.ext s k' (lift k s k' hk'))] at this
          exact this
        · rw [hd] at hd'; cases hd'
          unfold Left
          rw [hald, hK d k (I.ext d k (by simp))]
          exact hv
    · have I := chain_ok hr h2 (fun s hs => by
        rcases List.mem_cons.1 hs with rfl | hs
        · exact List.mem_cons_self
        · exact List.mem_cons_of_mem _ (hsub s hs))
      refine ⟨fun s k' hs => I.ext s k' (lift _ s k' hs), fun s q hs => I.exta s q ?_, fun s k' hs => keys _ s (I.keys s k' hs), fun s q hs => ?_, fun s q hs hn => ?_, fun K hK i o' hio hne => ?_⟩
      · rw [List.lookup_cons]
        cases hb : s == d with
        | true => simp at hb; subst hb; rw [hal] at hs; cases hs
        | false => exact hs
      · rw [e1]
        rcases List.mem_append.1 (I.keya s q hs) with h | h
        · rcases List.mem_cons.1 h with rfl | h
          · exact List.mem_append_right _ List.mem_cons_self
          · exact List.mem_append_left _ h
        · exact List.mem_append_right _ (List.mem_cons_of_mem _ h)
      · cases hb : s == d with
        | true => simp at hb; subst hb; exact I.ext s _ (by simp)
        | false => exact I.made s q hs (by rw [List.lookup_cons, hb]; exact hn)
      · rcases i with _ | i
        rotate_left
        · exact I.ok K hK i o' (by simpa using hio) hne
        simp at hio; subst hio
        intro a w F hsz hF hk R hR
        refine hp.1 a w F hsz (fun s hs k' hk' => ?_) R (fun v w' hb h3 h4 h5 => hR v w' hb (fun d' hd' => ?_))
        · have := hk s hs
          rw [hK s k' (I.ext s k' (lift _ s k' hk'))] at this
          exact this
        · rw [hd] at hd'; cases hd'
          unfold Left
          rw [I.exta d (T, z) (by simp)]
          exact ⟨h3, h4, h5, hp.2⟩

/-- The variables that were made, and their blocks. -/
def MadeAt : Made → List Nat → Act → World → Prop
  | [], [], _, _ => True
  | (d, T, z) :: t, g :: gs, a, w => (a.tmps.getD d undef = .pointer (some ⟨g, 0, none⟩) ∧ Blk w g T z) ∧ MadeAt t gs a w
  | _, _, _, _ => False
theorem madeAt_of {a : Act} {w : World} : ∀ (al : Made), (∀ p ∈ al, ∃ g, a.tmps.getD p.1 undef = .pointer (some ⟨g, 0, none⟩) ∧ Blk w g p.2.1 p.2.2) → (al.map (·.1)).Nodup → (∀ p ∈ al, ∀ p' ∈ al, p.1 ≠ p'.1 → a.tmps.getD p.1 undef ≠ a.tmps.getD p'.1 undef) →
    ∃ gs : List Nat, MadeAt al gs a w ∧ gs.Nodup ∧ ∀ g ∈ gs, ∃ p ∈ al, a.tmps.getD p.1 undef = .pointer (some ⟨g, 0, none⟩)
  | [], _, _, _ => ⟨[], True.intro, List.nodup_nil, fun g h => by cases h⟩
  | (d, T, z) :: t, h, hn, hp => by
    rw [List.map_cons, List.nodup_cons] at hn
    obtain ⟨gs, h1, h2, h3⟩ := madeAt_of t (fun p hp => h p (List.mem_cons_of_mem _ hp)) hn.2 (fun p hp1 p' hp2 => hp p (List.mem_cons_of_mem _ hp1) p' (List.mem_cons_of_mem _ hp2))
    obtain ⟨g, e1, e2⟩ := h _ List.mem_cons_self
    refine ⟨g :: gs, ⟨⟨e1, e2⟩, h1⟩, List.nodup_cons.2 ⟨fun hg => ?_, h2⟩, fun g' hg' => ?_⟩
    · obtain ⟨p, hp1, hp2⟩ := h3 g hg
      refine hp _ List.mem_cons_self p (List.mem_cons_of_mem _ hp1) (fun e => ?_) (e1.trans hp2.symm)
      exact hn.1 (by rw [show d = p.1 from e]; exact List.mem_map.2 ⟨p, hp1, rfl⟩)
    · rcases List.mem_cons.1 hg' with rfl | hg'
      · exact ⟨_, List.mem_cons_self, e1⟩
      · obtain ⟨p, hp1, hp2⟩ := h3 g' hg'
        exact ⟨p, List.mem_cons_of_mem _ hp1, hp2⟩

theorem madeAt_mem {a : Act} {w : World} : ∀ {al : Made} {gs : List Nat}, MadeAt al gs a w → ∀ p ∈ al, ∃ g ∈ gs, a.tmps.getD p.1 undef = .pointer (some ⟨g, 0, none⟩)
  | (_, _, _) :: _, g :: _, ⟨⟨h1, _⟩, h2⟩, p, hp => by
    rcases List.mem_cons.1 hp with rfl | hp
    · exact ⟨g, List.mem_cons_self, h1⟩
    · obtain ⟨g', e1, e2⟩ := madeAt_mem h2 p hp
      exact ⟨g', List.mem_cons_of_mem _ e1, e2⟩
/-- The head of a region, and then the rest of it in its order. -/
theorem flowG {id : Nat} {l : List Oper} {b : Bool} {e' : Env} {al : Made} {F : Cell → Prop} {a : Act} {w : World} (n : Nat) (S : Spec1 U) (st : Stos) (hm : P.follows .mixedOrders = true) (h : StE U N e F a w Df) (hB : flowB l.toArray (e.map (·.1)) n N (S.m :: st.map (·.1)) = true) (hF : freshB (e.map (·.1)) (dstsOf (l.take n)) = true)
    (hC : Chain U P l.toArray Q N e [] (l.take n) e' al) (hA : ((l.take n).all (fun o => o.dst.isNone || (usesOf l.toArray o).all fun s => !(al.map (·.1)).contains s) && freshB [] (al.map (·.1))) = true)
    (hsp : ∀ K : Nat → Bool × Sym, (∀ s k, e'.lookup s = some k → K s = k) → ∀ o, S.m < n → l[S.m]? = some o → SpOK P l.toArray Q K N F S o) (hFS : ∀ g, S.g = some g → g < w.heap.size) (hB0 : S.m < n → S.B w)
    (hst : ∀ e ∈ st, e.1 < n → ∀ o, l[e.1]? = some o → (∃ (T' T : TypeId) (z : Array Value), o.op = .store T' (.tmp e.2.1) (.tmp e.2.2.1) ∧ (P.info? T').map (·.size) = some z.size ∧ al.lookup e.2.1 = some (T, z) ∧ Vals e.2.2.2 z.size) ∧ e'.lookup e.2.2.1 = some (true, e.2.2.2) ∧ (U → ∀ {w : World} {F : Cell → Prop} {cs : Array Value}, e.2.2.2.on w F (.agg cs) → ∀ (i : Nat) (x : Int), cs[i]? ≠ some (.int .u32 x)))
    (hst2 : ((st.all fun r => r.1 != S.m && !(e.map (·.1)).contains r.2.1 && !(al.map (·.1)).contains r.2.2.1) && freshB [] (st.map (·.1)) && freshB [] (st.map (·.2.1))) = true)
    (hno : st ≠ [] → (∀ w, S.B w) ∧ ∀ w, S.G w) (hspu : S.m < n → ∀ o, l[S.m]? = some o → ∀ s ∈ usesOf l.toArray o, al.lookup s = none)
    (hQ : ∀ a' w' gs, w.grownBy w' S.g → (S.m < n → S.G w') → StE U N e' (Also F gs) a' w' Df → gs.Nodup → (∀ g ∈ gs, w.heap.size ≤ g) → (st = [] → MadeAt al gs a' w') → (∀ r ∈ st, r.1 < n → ∃ g ∈ gs, a'.tmps.getD r.2.1 undef = .pointer (some ⟨g, 0, none⟩) ∧ ∃ T cs, Blk w' g T cs ∧ r.2.2.2.on w' (Also F gs) (.agg cs)) → wpList P l.toArray Q (l.drop n) a' w') : (Code.region id l.toArray b).wp P Q a w := by
  have I := chain_ok hC hF (fun s hs => by cases hs)
  have hK : ∀ s k, e'.lookup s = some k → (e'.lookup s).getD (true, Sym.any) = k := fun s k hs => by rw [hs]; rfl
  rw [Bool.and_eq_true] at hA
  obtain ⟨hA, hA2⟩ := hA
  have hat : ∀ i o, i < n → l.toArray[i]? = some o → (l.take n)[i]? = some o := fun i o hi ho => by
    rw [List.getElem?_take, if_pos hi]; simpa using ho
  have hat' : ∀ i o, (l.take n)[i]? = some o → i < n ∧ l.toArray[i]? = some o := fun i o hi => by
    obtain ⟨hl, _⟩ := List.getElem?_eq_some_iff.1 hi
    simp only [List.length_take] at hl
    rw [List.getElem?_take, if_pos (by omega)] at hi
    exact ⟨by omega, by simpa using hi⟩
  have mem_dsts : ∀ s ∈ dstsOf (l.take n), ∃ i o, i < n ∧ l.toArray[i]? = some o ∧ o.dst = some s := fun s hs => by
    obtain ⟨o, ho, hd⟩ := List.mem_flatMap.1 hs
    obtain ⟨i, hi, rfl⟩ := List.getElem_of_mem ho
    obtain ⟨h1, h2⟩ := hat' i _ (List.getElem?_eq_getElem hi)
    exact ⟨i, _, h1, h2, by simpa using hd⟩
  have nod : ∀ (l ks : List Nat), freshB ks l = true → l.Nodup ∧ ∀ x ∈ l, x ∉ ks := by
    intro l
    induction l with
    | nil => intro _ _; exact ⟨List.nodup_nil, fun _ h => by cases h⟩
    | cons x t ih =>
      intro ks hf
      have hf' : (!ks.contains x && freshB (x :: ks) t) = true := hf
      simp only [Bool.and_eq_true, Bool.not_eq_true'] at hf'
      obtain ⟨i1, i2⟩ := ih _ hf'.2
      refine ⟨List.nodup_cons.2 ⟨fun h => i2 x h List.mem_cons_self, i1⟩, fun y hy => ?_⟩
      rcases List.mem_cons.1 hy with rfl | hy
      · exact fun h => by rw [List.contains_iff_mem.2 h] at hf'; exact absurd hf'.1 (by simp)
      · exact fun h => i2 y hy (List.mem_cons_of_mem _ h)
  simp only [Bool.and_eq_true, List.all_eq_true, bne_iff_ne, Bool.not_eq_true'] at hst2
  obtain ⟨⟨hst3, hst4⟩, hst5⟩ := hst2
  refine wp_flow n (e.map (·.1)) (fun s => (e'.lookup s).getD (true, .any)) al N S st hm hB h.size h.defers h.fok (fun s hs => ?_) (fun i o hi him ho => I.ok _ hK i o (hat i o hi ho) (by obtain ⟨d, hd, _⟩ := (flowB_iff hB).dst i o hi him ho; rw [hd]; exact fun h => by cases h)) (fun o hi ho => hsp _ hK o hi (by simpa using ho)) hFS hB0 (fun r hr hi o ho => ?_) (fun r hr => (hst3 r hr).1.1) (nod _ _ hst5).1 (nod _ _ hst4).1 hno (fun i o hi him ho s hs => ?_) fun a' w' L G => ?_
  · obtain ⟨k, hk⟩ := lookup_some hs
    rw [hK s k (I.ext s k hk)]
    exact h.known s k hk
  · obtain ⟨q1, q2, q3⟩ := hst r hr hi o (by simpa using ho)
    exact ⟨q1, hK _ _ q2, (fun h => by rw [← List.contains_iff_mem, (hst3 r hr).1.2] at h; cases h), lookup_none (hst3 r hr).2, q3⟩
  · have h1 := List.all_eq_true.1 hA o (List.mem_of_getElem? (hat i o hi ho))
    rw [Bool.or_eq_true] at h1
    rcases h1 with h1 | h1
    · by_cases hiS : i = S.m
      · subst hiS
        exact hspu hi o (by simpa using ho) s hs
      · obtain ⟨d, hd, _⟩ := (flowB_iff hB).dst i o hi (fun h => by
          rcases List.mem_cons.1 h with h | h
          · exact hiS h
          · exact him h) ho
        rw [hd] at h1; cases h1
    · have h2 := List.all_eq_true.1 h1 s hs
      exact lookup_none (by simpa using h2)
  · have hmade : ∀ p ∈ al, ∃ i o, i < n ∧ l.toArray[i]? = some o ∧ o.dst = some p.1 ∧ al.lookup p.1 = some p.2 := by
      intro p hp
      have hlk : al.lookup p.1 = some p.2 := by
        have : ∀ (al : Made) (ks : List Nat), freshB ks (al.map (·.1)) = true → p ∈ al → al.lookup p.1 = some p.2 ∧ p.1 ∉ ks := by
          intro al
          induction al with
          | nil => intro _ _ h; cases h
          | cons q t ih =>
            intro ks hf hm
            have hf' : (!ks.contains q.1 && freshB (q.1 :: ks) (t.map (·.1))) = true := hf
            simp only [Bool.and_eq_true, Bool.not_eq_true'] at hf'
            rcases List.mem_cons.1 hm with rfl | hm
            · refine ⟨by rw [show p = (p.1, p.2) from rfl, List.lookup_cons]; simp, fun h => ?_⟩
              rw [List.contains_iff_mem.2 h] at hf'; exact absurd hf'.1 (by simp)
            · obtain ⟨i1, i2⟩ := ih _ hf'.2 hm
              refine ⟨?_, fun h => i2 (List.mem_cons_of_mem _ h)⟩
              rw [show q = (q.1, q.2) from rfl, List.lookup_cons]
              cases hb : p.1 == q.1 with
              | true => simp at hb; exact absurd (by rw [hb]; exact List.mem_cons_self) i2
              | false => exact i1
        exact (this al [] hA2 hp).1
      rcases List.mem_append.1 (I.keya p.1 p.2 hlk) with hh | hh
      · cases hh
      · obtain ⟨i, o, h1, h2, h3⟩ := mem_dsts p.1 hh
        exact ⟨i, o, h1, h2, h3, hlk⟩
    have hnod : (al.map (·.1)).Nodup := by
      have : ∀ (l ks : List Nat), freshB ks l = true → l.Nodup ∧ ∀ x ∈ l, x ∉ ks := by
        intro l
        induction l with
        | nil => intro _ _; exact ⟨List.nodup_nil, fun _ h => by cases h⟩
        | cons x t ih =>
          intro ks hf
          have hf' : (!ks.contains x && freshB (x :: ks) t) = true := hf
          simp only [Bool.and_eq_true, Bool.not_eq_true'] at hf'
          obtain ⟨i1, i2⟩ := ih _ hf'.2
          refine ⟨List.nodup_cons.2 ⟨fun h => i2 x h List.mem_cons_self, i1⟩, fun y hy => ?_⟩
          rcases List.mem_cons.1 hy with rfl | hy
          · exact fun h => by rw [List.contains_iff_mem.2 h] at hf'; exact absurd hf'.1 (by simp)
          · exact fun h => i2 y hy (List.mem_cons_of_mem _ h)
      exact (this _ _ hA2).1
    have hfull : ∃ al2 : Made, al2.map (·.1) = al.map (·.1) ∧ (st = [] → al2 = al) ∧ ∀ p ∈ al2, ∃ g, a'.tmps.getD p.1 undef = .pointer (some ⟨g, 0, none⟩) ∧ Blk w' g p.2.1 p.2.2 := by
      have : ∀ (l : Made), (∀ p ∈ l, p ∈ al) → ∃ al2 : Made, al2.map (·.1) = l.map (·.1) ∧ (st = [] → al2 = l) ∧ ∀ p ∈ al2, ∃ g, a'.tmps.getD p.1 undef = .pointer (some ⟨g, 0, none⟩) ∧ Blk w' g p.2.1 p.2.2 := by
        intro l
        induction l with
        | nil => intro _; exact ⟨[], rfl, fun _ => rfl, fun p h => by cases h⟩
        | cons p t ih =>
          intro hsub
          obtain ⟨al2, i1, i2, i3⟩ := ih (fun q hq => hsub q (List.mem_cons_of_mem _ hq))
          obtain ⟨i, o, e1, e2, e3, e4⟩ := hmade p (hsub p List.mem_cons_self)
          obtain ⟨g, _, f1, z', f2, f3, f4⟩ := G.made i o p.1 p.2.1 p.2.2 e1 e2 e3 e4
          refine ⟨(p.1, p.2.1, z') :: al2, by rw [List.map_cons, List.map_cons, i1], fun h0 => ?_, fun q hq => ?_⟩
          · rw [i2 h0, f4 (fun e he => by rw [h0] at he; cases he)]
          · rcases List.mem_cons.1 hq with rfl | hq
            · exact ⟨g, f1, f3⟩
            · exact i3 q hq
      exact this al fun p hp => hp
    obtain ⟨al2, al2k, al2n, al2b⟩ := hfull
    have hmk : ∀ p ∈ al2, ∃ p' ∈ al, p'.1 = p.1 := fun p hp => by
      have : p.1 ∈ al.map (·.1) := by rw [← al2k]; exact List.mem_map.2 ⟨p, hp, rfl⟩
      obtain ⟨p', h1, h2⟩ := List.mem_map.1 this
      exact ⟨p', h1, h2⟩
    obtain ⟨gs, h1, h2, h3⟩ := madeAt_of (a := a') (w := w') al2 al2b (by rw [al2k]; exact hnod) (fun p0 hp0 p0' hp0' hne => by
        obtain ⟨p, hp, hpe⟩ := hmk p0 hp0
        obtain ⟨p', hp', hpe'⟩ := hmk p0' hp0'
        rw [← hpe, ← hpe'] at hne ⊢
        obtain ⟨i, o, e1, e2, e3, e4⟩ := hmade p hp
        obtain ⟨j, o', e1', e2', e3', e4'⟩ := hmade p' hp'
        refine G.apart i o p.1 j o' p'.1 _ _ e1 e2 e3 e4 e1' e2' e3' e4' ?_
        rintro rfl
        rw [e2] at e2'; cases e2'
        rw [e3] at e3'
        exact hne (Option.some.inj e3'))
    have hgs : ∀ g ∈ gs, g ∈ L := fun g hg => by
      obtain ⟨p0, hp0, hpt⟩ := h3 g hg
      obtain ⟨p, hp, hpe⟩ := hmk p0 hp0
      rw [← hpe] at hpt
      obtain ⟨i, o, e1, e2, e3, e4⟩ := hmade p hp
      obtain ⟨g', f0, f1, f2⟩ := G.made i o p.1 p.2.1 p.2.2 e1 e2 e3 e4
      rw [hpt] at f1
      injection f1 with f1; injection f1 with f1; injection f1 with f1
      rw [f1]; exact f0
    have hsub : ∀ k, Also F gs k → Also F L k := fun k => Or.imp (fun h => h) (hgs k.1)
    refine hQ a' w' gs G.grown G.behind ⟨G.size, G.defers, G.fok.sub hsub, fun s k hk => ?_⟩ h2 (fun g hg => G.new g (hgs g hg)) (fun h0 => by rw [al2n h0] at h1; exact h1) (fun r hr hi => ?_)
    rotate_left
    · obtain ⟨g, f0, f1, T, cs, f2, f3⟩ := G.done r hr hi
      refine ⟨g, ?_, f1, T, cs, f2, r.2.2.2.mono f3 (.refl _ _) fun k _ => hsub k⟩
      obtain ⟨o, ho⟩ : ∃ o, l[r.1]? = some o := by
        have := (flowB_iff hB).le
        exact ⟨_, List.getElem?_eq_getElem (by simp at this; omega)⟩
      obtain ⟨⟨T', T2, z, _, _, q4, _⟩, _⟩ := hst r hr hi o ho
      have hk2 : r.2.1 ∈ al2.map (·.1) := by rw [al2k]; exact lookup_mem q4
      obtain ⟨p, hp, hpe⟩ := List.mem_map.1 hk2
      obtain ⟨g', hg', hgp⟩ := madeAt_mem h1 p hp
      rw [hpe, f1] at hgp
      injection hgp with hgp; injection hgp with hgp; injection hgp with hgp
      rw [hgp]; exact hg'
    cases hal : al.lookup s with
    | none =>
      have H : KnownV ((e'.lookup s).getD (true, Sym.any)) w' (Also F L) (a'.tmps.getD s undef) := by
        rcases List.mem_append.1 (I.keys s k hk) with hs | hs
        · exact G.env s hs
        · obtain ⟨i, o, e1, e2, e3⟩ := mem_dsts s hs
          exact G.head i o s e1 e2 e3 hal
      rw [hK s k hk] at H
      exact H.mono (.refl _ _) fun k _ => hsub k
    | some q =>
      have : k = (true, Sym.any) := by
        have h1 := I.made s q hal rfl
        rw [hk] at h1
        exact Option.some.inj h1
      subst this
      exact ⟨fun _ => True.intro, fun e => by cases e⟩

theorem below_of_none {w w' : World} (h : w.grownBy w' none) : Below w.heap.size w w' := ⟨h.os, h.tape, h.output, h.size, fun k hk => h.block k hk (fun e => by cases e)⟩
/-- The same, without a store among them. -/
theorem flowH {id : Nat} {l : List Oper} {b : Bool} {e' : Env} {al : Made} {F : Cell → Prop} {a : Act} {w : World} (n : Nat) (hm : P.follows .mixedOrders = true) (h : StE U N e F a w Df) (hB : flowB l.toArray (e.map (·.1)) n N [n] = true) (hF : freshB (e.map (·.1)) (dstsOf (l.take n)) = true)
    (hC : Chain U P l.toArray Q N e [] (l.take n) e' al) (hA : ((l.take n).all (fun o => (usesOf l.toArray o).all fun s => !(al.map (·.1)).contains s) && freshB [] (al.map (·.1))) = true)
    (hQ : ∀ a' w' gs, Below w.heap.size w w' → StE U N e' (Also F gs) a' w' Df → gs.Nodup → (∀ g ∈ gs, w.heap.size ≤ g) → MadeAt al gs a' w' → wpList P l.toArray Q (l.drop n) a' w') : (Code.region id l.toArray b).wp P Q a w :=
  flowG n (Spec1.no n) [] hm h hB hF hC (by
    rw [Bool.and_eq_true] at hA ⊢
    refine ⟨List.all_eq_true.2 fun o ho => ?_, hA.2⟩
    rw [List.all_eq_true.1 hA.1 o ho, Bool.or_true]) (fun _ _ _ hi => absurd hi (Nat.lt_irrefl _)) (fun g hg => by cases hg) (fun hi => absurd hi (Nat.lt_irrefl _)) (fun r hr => by cases hr) (by simp [freshB]) (fun h => absurd rfl h) (fun hi => absurd hi (Nat.lt_irrefl _)) fun a' w' gs hg _ hs hn hgs hM _ => hQ a' w' gs (below_of_none hg) hs hn hgs (hM rfl)

/-- A region that makes no variable, in whatever order. -/
theorem flowC {id : Nat} {l : List Oper} {b : Bool} {e' : Env} {F : Cell → Prop} {a : Act} {w : World} (hm : P.follows .mixedOrders = true) (h : StE U N e F a w Df) (hB : flowB l.toArray (e.map (·.1)) l.length N [l.length] = true) (hF : freshB (e.map (·.1)) (dstsOf l) = true)
    (hC : Chain U P l.toArray Q N e [] l e' []) (hQ : ∀ a' w', Below w.heap.size w w' → StE U N e' F a' w' Df → Q .normal a' w') : (Code.region id l.toArray b).wp P Q a w := by
  refine flowH l.length hm h hB (by rw [List.take_length]; exact hF) (by rw [List.take_length]; exact hC) (by simp [freshB]) fun a' w' gs hb hs hn hg hM => ?_
  rw [List.drop_length]
  match gs, hM with
  | [], _ => exact hQ a' w' hb (hs.less fun k hk => .inl hk)

theorem chainT {l0 : List Oper} {F : Cell → Prop} : ∀ {l : List Oper} {e e' : Env} {a : Act} {w : World}, Chain U P l0.toArray Q N e [] l e' [] → l.all (fun o => o.dst.any fun d => decide (d < N)) = true → StE U N e F a w Df → ∀ {t : List Oper},
    (∀ a' w', Below w.heap.size w w' → StE U N e' F a' w' Df → wpList P l0.toArray Q t a' w') → wpList P l0.toArray Q (l ++ t) a w
  | [], e, e', a, w, h, _, hs, t, hQ => by
    obtain ⟨rfl, _⟩ := h
    exact hQ a w (Below.refl _ _) hs
  | o :: l, e, e', a, w, .inr ⟨hd, _⟩, hN, _, _, _ => by simp [hd] at hN
  | o :: l, e, e', a, w, .inl ⟨d, hd, hc⟩, hN, hs, t, hQ => by
    rw [List.all_cons, Bool.and_eq_true] at hN
    have hdN : d < N := by simpa [hd] using hN.1
    rcases hc with ⟨k, hp, hr⟩ | ⟨T, z, hp, hr⟩
    · have H := hp a w F hs.size hs.fok (fun s _ => hs.known s) (wpList P l0.toArray Q (l ++ t)) (fun v w' hb hv => by
        have hs' : StE U N ((d, k) :: e) F (a.put o.dst v) w' Df := by rw [hd]; exact hs.put hb hdN hv
        exact chainT hr hN.2 hs' fun a'' w'' hb' hs'' => hQ a'' w'' (hb.trans (hb'.mono hb.size)) hs'')
      show if _ then _ else _
      split
      · rename_i hw; rw [if_pos hw] at H; exact .inl H
      · rename_i hw; rw [if_neg hw] at H; exact H
    · exfalso
      have : ∀ {l : List Oper} {e e' : Env} {al al' : Made}, Chain U P l0.toArray Q N e al l e' al' → al.length ≤ al'.length := by
        intro l
        induction l with
        | nil => rintro e e' al al' ⟨rfl, rfl⟩; exact Nat.le_refl _
        | cons o t ih =>
          rintro e e' al al' (⟨d, _, ⟨k, _, hr⟩ | ⟨T, z, _, hr⟩⟩ | ⟨_, hr⟩)
          · exact ih hr
          · exact Nat.le_trans (Nat.le_succ _) (ih hr)
          · exact ih hr
      have := this hr
      simp at this
/-- A region in the text's order: slots may be written anew. -/
theorem flowT {id : Nat} {l : List Oper} {e' : Env} {F : Cell → Prop} {a : Act} {w : World} (h : StE U N e F a w Df) (hN : l.all (fun o => o.dst.any fun d => decide (d < N)) = true)
    (hC : Chain U P l.toArray Q N e [] l e' []) (hQ : ∀ a' w', Below w.heap.size w w' → StE U N e' F a' w' Df → Q .normal a' w') : (Code.region id l.toArray false).wp P Q a w := by
  refine wp_region_lit ?_
  have := chainT hC hN h (t := []) fun a' w' hb hs => hQ a' w' hb hs
  simpa using this
end
end Go.Proofs.Ytbeeiecbbmiojaa.Y
