/- A region in any order in which loads run ahead of a store to what they read (a swap). No program in sight. -/
import Derived.Test.YtbeeiecbbmiojaaYcalln
import Derived.Test.YtbeeiecbbmiojaaYout
namespace Go.Proofs.Ytbeeiecbbmiojaa.Y
open Go.RowKit

section
variable {U : Prop} {P : Program} {ops : Array Oper} {Q : Exit → Act → World → Prop} {N : Nat}
def isLd (o : Oper) : Bool := match o.op with
  | .load _ _ => true
  | _ => false
/-- Each load runs ahead of the store. -/
def bindL (ops : Array Oper) (n m : Nat) : Bool := (List.range n).all fun i => i == m || !(ops[i]?).any isLd || (ops[m]?).any fun o => o.after.any fun e => Region.binds .any e && e.on == i
def OpOKL (U : Prop) (P : Program) (ops : Array Oper) (Q : Exit → Act → World → Prop) (K : Nat → Bool × Sym) (N : Nat) (B : World → Prop) (o : Oper) : Prop :=
  ∀ (a : Act) (w : World) (F : Cell → Prop), a.tmps.size = N → FOK U F w → (isLd o = true → B w) → (∀ s ∈ usesOf ops o, KnownV (K s) w F (a.tmps.getD s undef)) → ∀ R : Act → World → Prop,
    (∀ v w', Below w.heap.size w w' → (∀ d, o.dst = some d → KnownV (K d) w' F v) → R (a.put o.dst v) w') →
    if Region.wanted o (yielded ops a.tmps) then o.wp P a w R Q else R (a.put o.dst undef) w
theorem ahead_of {n m i : Nat} {o : Oper} {listed : Array Bool} (h : bindL ops n m = true) (hi : i < n) (him : i ≠ m) (ho : ops[i]? = some o) (hl : isLd o = true) (hun : listed.getD i true = false) (I : HeadInv .any ops n listed) : listed.getD m true = false := by
  cases hm : listed.getD m true with
  | false => rfl
  | true =>
    have h1 := List.all_eq_true.1 h i (List.mem_range.2 hi)
    rw [ho] at h1
    cases hom : ops[m]? with
    | none =>
      rw [hom] at h1
      simp [him, hl] at h1
    | some om =>
      rw [hom] at h1
      simp [him, hl] at h1
      obtain ⟨j, hj, hb, he⟩ := h1
      have hms : m < ops.size := (Array.getElem?_eq_some_iff.1 hom).1
      have hm2 : listed.getD m false = true := by
        have hz : m < listed.size := by rw [I.size]; exact hms
        simp [hz] at hm ⊢
        exact hm
      have := I.closed m om hom hm2 _ (Array.getElem_mem hj) hb
      rw [he] at this
      exact absurd this (by rw [getD_both hun]; simp)
theorem wpAny_genI {l : List Oper} {n : Nat} {D ms : List Nat} (hl : ops = l.toArray) (fb : FlowB ops D n N ms) (I : Array Bool → Act → World → Prop)
    (step : ∀ (listed : Array Bool) (a : Act) (w : World) (i : Nat) (o : Oper), i < n → ops[i]? = some o → listed.getD i true = false → i < listed.size → (∀ s ∈ usesOf ops o, s ∈ D ∨ ∃ i' o', i' < n ∧ listed.getD i' true = true ∧ ops[i']? = some o' ∧ o'.dst = some s) → HeadInv .any ops n listed → I listed a w →
      ∀ R : Act → World → Prop, (∀ a' w', I (listed.setIfInBounds i true) a' w' → R a' w') → if Region.wanted o (yielded ops a.tmps) then o.wp P a w R Q else R (a.put o.dst undef) w)
    (hQ : ∀ a w listed, (∀ i, i < n → listed.getD i true = true) → I listed a w → wpList P ops Q (l.drop n) a w) :
    ∀ (k : Nat) (listed : Array Bool) (a : Act) (w : World), todo n listed ≤ k → HeadInv .any ops n listed → I listed a w → wpAny P .any ops Q (k + (ops.size - n)) listed a w := by
  have hn := fb.le
  intro k
  induction k with
  | zero =>
    intro listed a w hk inv hI
    have hall := todo_zero (Nat.le_zero.1 hk)
    have he := headInv_done hn inv hall
    have hF := hQ a w listed hall hI
    subst he
    have hlen : (l.drop n).length = ops.size - n := by rw [List.length_drop, hl]; rfl
    rcases fb.tail with e | ⟨_, _, hseq⟩
    · have hz : ops.size - n = 0 := by omega
      rw [hz]
      have hd : l.drop n = [] := List.eq_nil_of_length_eq_zero (by omega)
      rw [hd] at hF
      refine ⟨?_, hF⟩
      unfold Region.ready
      rw [List.filter_eq_nil_iff]
      intro i hi
      have := hall i (by rw [List.mem_range] at hi; omega)
      simp only [this]
      simp
    · rw [Nat.zero_add, ← hlen]
      exact wpAny_of_seq (l.drop n) n _ _ _ (fun j => by rw [hl]; simp) (by rw [hlen]; exact hseq) hF
  | succ k ih =>
    intro listed a w hk inv hI
    by_cases h0 : todo n listed ≤ k
    · exact wpAny_le (by omega) (ih listed a w h0 inv hI)
    · have hex : ∃ i, i < n ∧ listed.getD i true = false := by
        have hp : 0 < todo n listed := by omega
        obtain ⟨i, hi⟩ := List.exists_mem_of_length_pos hp
        obtain ⟨h1, h2⟩ := List.mem_filter.1 hi
        exact ⟨i, List.mem_range.1 h1, by simpa using h2⟩
      rw [show k + 1 + (ops.size - n) = (k + (ops.size - n)) + 1 by omega]
      obtain ⟨i0, hi0, hun0⟩ := hex
      refine ⟨fun hnil => ?_, fun i hi => ?_⟩
      · exfalso
        have least : ∀ d i, i ≤ d → i < n → listed.getD i true = false → ∃ j, j < n ∧ listed.getD j true = false ∧ ∀ t, t < j → listed.getD t true = true := by
          intro d
          induction d with
          | zero =>
            intro i hid hin hun
            obtain rfl : i = 0 := by omega
            exact ⟨0, hin, hun, fun t ht => absurd ht (by omega)⟩
          | succ d ihd =>
            intro i hid hin hun
            by_cases hh : ∃ t, t < i ∧ listed.getD t true = false
            · obtain ⟨t, ht, hut⟩ := hh
              exact ihd t (by omega) (by omega) hut
            · refine ⟨i, hin, hun, fun t ht => ?_⟩
              cases hg : listed.getD t true with
              | true => rfl
              | false => exact absurd ⟨t, ht, hg⟩ hh
        obtain ⟨j, hjn, hju, hjl⟩ := least i0 i0 (Nat.le_refl _) hi0 hun0
        have hjs : j < ops.size := by omega
        have hj : j ∈ Region.ready .any ops listed := by
          refine mem_ready.2 ⟨hju, ops[j], Array.getElem?_eq_getElem hjs, fun e he hbn0 => ?_⟩
          have hb := List.all_eq_true.1 fb.back j (List.mem_range.2 hjs)
          simp only [Array.getElem?_eq_getElem hjs, Option.all_some] at hb
          have he' := Array.all_eq_true'.1 hb e he
          have hlt : e.on < j := by simpa [hbn0] using he'
          have h1 := hjl e.on hlt
          have hsz := inv.size
          have hes : e.on < listed.size := by omega
          simp [hes] at h1 ⊢
          exact h1
        rw [hnil] at hj
        cases hj
      · have hin : i < n := by
          rcases Nat.lt_or_ge i n with h | h
          · exact h
          · rcases fb.tail with e | ⟨hs, hc, _⟩
            · obtain ⟨_, o, ho, _⟩ := mem_ready.1 hi
              have : i < ops.size := (Array.getElem?_eq_some_iff.1 ho).1
              omega
            · have hlt : n < ops.size := by
                obtain ⟨_, o, ho, _⟩ := mem_ready.1 hi
                have : i < ops.size := (Array.getElem?_eq_some_iff.1 ho).1
                omega
              exact absurd hi (tail_waits hs hc hlt inv _ i0 rfl hi0 hun0 i h)
        obtain ⟨hun, o, ho, hall⟩ := mem_ready.1 hi
        have hnow : ∀ s ∈ usesOf ops o, s ∈ D ∨ ∃ i' o', i' < n ∧ listed.getD i' true = true ∧ ops[i']? = some o' ∧ o'.dst = some s := fun s hs => by
          rcases fb.uses i o hin ho s hs with h | ⟨e, he, hbn, oj, hoj, hdj⟩
          · exact .inl h
          · have h1 := hall e he hbn
            have hs' : i < ops.size := (Array.getElem?_eq_some_iff.1 ho).1
            have hb := List.all_eq_true.1 fb.back i (List.mem_range.2 hs')
            simp only [ho, Option.all_some] at hb
            have he' := Array.all_eq_true'.1 hb e he
            have hlt : e.on < i := by simpa [hbn] using he'
            refine .inr ⟨e.on, oj, by omega, ?_, hoj, hdj⟩
            have hsz := inv.size
            have hes : e.on < listed.size := by omega
            simp [hes] at h1 ⊢
            exact h1
        have hsz2 : i < listed.size := by
          rcases Nat.lt_or_ge i listed.size with h | h
          · exact h
          · simp [Array.getElem?_eq_none h] at hun
        unfold wpOp
        rw [ho]
        have H := step listed a w i o hin ho hun hsz2 hnow inv hI (wpAny P .any ops Q (k + (ops.size - n)) (listed.setIfInBounds i true)) (fun a' w' hI' => ih _ _ _ (by have := todo_set hin hun; omega) (inv.set hi hin) hI')
        show if _ then _ else _
        split
        · rename_i hw; rw [if_pos hw] at H; exact .inl H
        · rename_i hw; rw [if_neg hw] at H; exact H

theorem wp_flowL {id : Nat} {l : List Oper} (n m g : Nat) (D : List Nat) (K : Nat → Bool × Sym) (N : Nat) (B G : World → Prop) {F : Cell → Prop} {a : Act} {w : World}
    (hm : P.follows .mixedOrders = true) (hB : flowB l.toArray D n N [m] = true) (hdn : (l.toArray[m]?).bind (·.dst) = none) (hmn : m < n) (ha : a.tmps.size = N) (hd : a.defers = []) (hF : FOK U F w) (hFg : ∀ x, F (g, x)) (hK : ∀ s ∈ D, KnownV (K s) w F (a.tmps.getD s undef)) (hBw : B w)
    (keepB : ∀ {w w' : World}, B w → Below w.heap.size w w' → B w') (keepG : ∀ {w w' : World}, G w → Below w.heap.size w w' → G w')
    (hbm : bindL l.toArray n m = true) (hops : ∀ i o, i < n → i ≠ m → l.toArray[i]? = some o → OpOKL U P l.toArray Q K N B o) (hsp : ∀ o, l.toArray[m]? = some o → CallOKN P l.toArray Q K N g B G U F o)
    (hQ : ∀ a' w' listed, (∀ i, i < n → listed.getD i true = true) → InvN U l.toArray K D n N m g B G w F listed a' w' → wpList P l.toArray Q (l.drop n) a' w') :
    (Code.region id l.toArray true).wp P Q a w := by
  have fb := flowB_iff hB
  refine wp_region_any hm ?_
  have hun : ∀ i, i < n → (Array.replicate l.toArray.size false).getD i true = false := fun i hi => getD_in (by have := fb.le; simp at this ⊢; omega) (getD_replicate_false _ _)
  have inv0 : HeadInv .any l.toArray n (Array.replicate l.toArray.size false) :=
    ⟨by simp, fun j oj _ hl => (by rw [getD_replicate_false] at hl; cases hl), fun t _ ht => getD_in (by simpa using ht) (getD_replicate_false _ _)⟩
  have H := wpAny_genI (P := P) (Q := Q) (ops := l.toArray) (N := N) rfl fb (InvN U l.toArray K D n N m g B G w F) (fun listed a w2 i o hi ho hun hz hnow hI0 hI R hR => by
      have hknow : ∀ s ∈ usesOf l.toArray o, KnownV (K s) w2 F (a.tmps.getD s undef) := fun s hs => by
        rcases hnow s hs with h | ⟨i', o', e1, e2, e3, e4⟩
        · exact hI.env s h
        · exact hI.head i' o' s e1 e2 e3 e4
      have hmin : m < listed.size ∨ ¬ m < listed.size := Decidable.em _
      by_cases him : i = m
      · subst him
        exact hsp o ho a w2 hI.size hI.fok hknow (hI.ahead hun) R fun v w' h1 h2 h3 =>
          hR _ w' (hI.stepM ho (by rw [ho] at hdn; exact hdn) h1 (keeps_grown h1 hFg) ⟨fun k hk => Nat.lt_of_lt_of_le (hI.fok.lt k hk) h1.size, fun u k hk o x => by
            by_cases e : k.1 = g
            · rw [e]; exact h2 u o x
            · rw [show w'.cell? ⟨k.1, o, none⟩ = w2.cell? ⟨k.1, o, none⟩ from World.cell?_of_block (h1.block k.1 (hI.fok.lt k hk) fun e' => e (by injection e'))]
              exact hI.fok.nou u k hk o x⟩ (fun h => by simp [hz] at h) (fun _ => h3))
      · have H := hops i o hi him ho a w2 F hI.size hI.fok (fun hld => hI.ahead (ahead_of hbm hi him ho hld hun hI0)) hknow R
        refine H fun v w' hb hv => hR _ w' (hI.step fb (fun h => him (List.mem_singleton.1 h)) hi hz ho (only_of_below hb _) (.of hb) (hI.fok.below hb) (fun h => keepB (hI.ahead (by rwa [getD_set_ne true him] at h)) hb) (fun h => keepG (hI.behind (by rwa [getD_set_ne true him] at h)) hb) fun d hd => hv d hd))
    hQ n (Array.replicate l.toArray.size false) a w.drew
      (by unfold todo; exact Nat.le_trans (List.length_filter_le _ _) (by simp)) inv0
      ⟨ha, hd, only_drew (only_refl _ _), fun _ => keepB hBw (Below.refl _ _).drew, (fun h => by rw [hun _ hmn] at h; cases h), hF.below (Below.refl _ _).drew, fun s hs => (hK s hs).below (Below.refl _ _).drew, (fun i o d hi h => by rw [hun i hi] at h; cases h)⟩
  refine wpAny_le ?_ H
  have := fb.le
  omega
/-- An operation pays, a load by what lies there ahead of the store. -/
def PaysL (U : Prop) (P : Program) (ops : Array Oper) (Q : Exit → Act → World → Prop) (N : Nat) (B : World → Prop) (e : Env) (o : Oper) (k : Bool × Sym) : Prop :=
  ∀ (a : Act) (w : World) (F : Cell → Prop), a.tmps.size = N → FOK U F w → (isLd o = true → B w) → (∀ s ∈ usesOf ops o, SlotOK e F a w s) → ∀ R : Act → World → Prop,
    (∀ v w', Below w.heap.size w w' → KnownV k w' F v → R (a.put o.dst v) w') →
    if Region.wanted o (yielded ops a.tmps) then o.wp P a w R Q else R (a.put o.dst undef) w
def ChainL (U : Prop) (P : Program) (ops : Array Oper) (Q : Exit → Act → World → Prop) (N : Nat) (B : World → Prop) : Env → List Oper → Env → Prop
  | e, [], e' => e' = e
  | e, o :: t, e' => ∃ d k, o.dst = some d ∧ PaysL U P ops Q N B e o k ∧ ChainL U P ops Q N B ((d, k) :: e) t e'
section
variable {B : World → Prop} {e e' : Env} {o : Oper} {t : List Oper} {d : Nat} {k : Bool × Sym}
theorem ln : ChainL U P ops Q N B e [] e := rfl
theorem lc (hd : o.dst = some d) (hp : Pays U P ops Q N e o k) (hr : ChainL U P ops Q N B ((d, k) :: e) t e') : ChainL U P ops Q N B e (o :: t) e' := ⟨d, k, hd, fun a w F h1 h2 _ h3 => hp a w F h1 h2 h3, hr⟩
theorem ll (hd : o.dst = some d) (hp : PaysL U P ops Q N B e o k) (hr : ChainL U P ops Q N B ((d, k) :: e) t e') : ChainL U P ops Q N B e (o :: t) e' := ⟨d, k, hd, hp, hr⟩
end
structure ChainLOK (U : Prop) (P : Program) (ops : Array Oper) (Q : Exit → Act → World → Prop) (N : Nat) (B : World → Prop) (e : Env) (l : List Oper) (e' : Env) : Prop where
  ext : ∀ s k, e.lookup s = some k → e'.lookup s = some k
  keys : ∀ s k, e'.lookup s = some k → s ∈ e.map (·.1) ++ dstsOf l
  ok : ∀ K : Nat → Bool × Sym, (∀ s k, e'.lookup s = some k → K s = k) → ∀ (i : Nat) (o : Oper), l[i]? = some o → OpOKL U P ops Q K N B o
theorem chainL_ok {B : World → Prop} : ∀ {l : List Oper} {e e' : Env}, ChainL U P ops Q N B e l e' → freshB (e.map (·.1)) (dstsOf l) = true → ChainLOK U P ops Q N B e l e'
  | [], e, e', h, _ => by
    obtain rfl : e' = e := h
    exact ⟨fun _ _ h => h, fun s k hk => List.mem_append_left _ (lookup_mem hk), fun _ _ i o h => by simp at h⟩
  | o :: t, e, e', ⟨d, k, hd, hp, hr⟩, hf => by
    have e1 : dstsOf (o :: t) = d :: dstsOf t := by simp [dstsOf, hd]
    rw [e1] at hf
    have hf' : (!(e.map (·.1)).contains d && freshB (d :: e.map (·.1)) (dstsOf t)) = true := hf
    simp only [Bool.and_eq_true, Bool.not_eq_true'] at hf'
    obtain ⟨h1, h2⟩ := hf'
    have hnd : d ∉ e.map (·.1) := fun h => by rw [List.contains_iff_mem.2 h] at h1; cases h1
    have lift : ∀ (s : Nat) (k' : Bool × Sym), e.lookup s = some k' → ((d, k) :: e : Env).lookup s = some k' := fun s k' hs => by
      rw [List.lookup_cons]
      cases hb : s == d with
      | true => simp at hb; subst hb; exact absurd (lookup_mem hs) hnd
      | false => exact hs
    have I := chainL_ok hr h2
    refine ⟨fun s k' hs => I.ext s k' (lift s k' hs), fun s k' hs => ?_, fun K hK i o' hio => ?_⟩
    · rw [e1]
      have h := I.keys s k' hs
      simp only [List.map_cons, List.cons_append, List.mem_cons, List.mem_append] at h ⊢
      rcases h with h | h | h
      · exact .inr (.inl h)
      · exact .inl h
      · exact .inr (.inr h)
    · rcases i with _ | i
      rotate_left
      · exact I.ok K hK i o' (by simpa using hio)
      simp at hio; subst hio
      intro a w F hsz hF hB hk R hR
      refine hp a w F hsz hF hB (fun s hs k' hk' => ?_) R (fun v w' hb hv => hR v w' hb (fun d' hd' => ?_))
      · have := hk s hs
        rw [hK s k' (I.ext s k' (lift s k' hk'))] at this
        exact this
      · rw [hd] at hd'; cases hd'
        rw [hK d k (I.ext d k (by simp))]
        exact hv
/-- The same, told operation by operation: those ahead of the call in the text, the call, those behind it. -/
theorem flowL {id : Nat} {l : List Oper} {e e1 : Env} {F : Cell → Prop} {a : Act} {w : World} (n m g : Nat) (B G : World → Prop) (hm : P.follows .mixedOrders = true) (h : StE U N e F a w) (hFg : ∀ x, F (g, x)) (hBw : B w) (keepB : ∀ {w w' : World}, B w → Below w.heap.size w w' → B w') (keepG : ∀ {w w' : World}, G w → Below w.heap.size w w' → G w')
    (hB : flowB l.toArray (e.map (·.1)) n N [m] = true) (hmn : n = m + 1) (hdn : (l.toArray[m]?).bind (·.dst) = none)
    (hbm : bindL l.toArray n m = true) (hC1 : ChainL U P l.toArray Q N B e (l.take m) e1) (hF1 : freshB (e.map (·.1)) (dstsOf (l.take m)) = true)
    (hcall : ∀ (a : Act) (w : World) (o : Oper), l[m]? = some o → a.tmps.size = N → FOK U F w → (∀ s ∈ usesOf l.toArray o, SlotOK e1 F a w s) → B w → ∀ R : Act → World → Prop,
      (∀ v w', w.grownBy w' (some g) → (U → ∀ (x : Nat) (y : Int), w'.cell? ⟨g, x, none⟩ ≠ some (.int .u32 y)) → G w' → R (a.put o.dst v) w') → if Region.wanted o (yielded l.toArray a.tmps) then o.wp P a w R Q else R (a.put o.dst undef) w)
    (hQ : ∀ a' w', w.grownBy w' (some g) → G w' → StE U N e1 F a' w' → wpList P l.toArray Q (l.drop n) a' w') : (Code.region id l.toArray true).wp P Q a w := by
  have hmn' : m < n := by omega
  have I1 := chainL_ok hC1 hF1
  have fb := flowB_iff hB
  have up0 : ∀ s k, e.lookup s = some k → e1.lookup s = some k := I1.ext
  have hK : ∀ s k, e1.lookup s = some k → (e1.lookup s).getD (true, Sym.any) = k := fun s k hs => by rw [hs]; rfl
  have hl0 : ∀ i o, l.toArray[i]? = some o → l[i]? = some o := fun i o ho => by rwa [List.getElem?_toArray] at ho
  refine wp_flowL n m g (e.map (·.1)) (fun s => (e1.lookup s).getD (true, .any)) N B G hm hB hdn hmn' h.size h.defers h.fok hFg (fun s hs => ?_) hBw keepB keepG hbm (fun i o hi him ho => ?_) (fun o ho => ?_) fun a' w' listed hall G' => ?_
  · obtain ⟨k, hk⟩ := lookup_some hs
    rw [hK s k (up0 s k hk)]
    exact h.known s k hk
  · exact I1.ok _ hK i o (by rw [List.getElem?_take, if_pos (by omega)]; exact hl0 i o ho)
  · intro a w hsz hf hknow hBw' R hR
    have hl := hl0 m o ho
    refine hcall a w o hl hsz hf (fun s hs k hk => ?_) hBw' R fun v w' h1 h2 h3 => hR v w' h1 h2 h3
    have : KnownV ((e1.lookup s).getD (true, Sym.any)) w F (a.tmps.getD s undef) := hknow s hs
    rwa [hK s k hk] at this
  · refine hQ a' w' G'.grown (G'.behind (hall m hmn')) ⟨G'.size, G'.defers, G'.fok, fun s k hk => ?_⟩
    rcases List.mem_append.1 (I1.keys s k hk) with h1 | h1
    · have : KnownV ((e1.lookup s).getD (true, Sym.any)) w' F (a'.tmps.getD s undef) := G'.env s h1
      rwa [hK s k hk] at this
    · obtain ⟨o, ho, hd⟩ := List.mem_flatMap.1 h1
      obtain ⟨i, hi, rfl⟩ := List.getElem_of_mem ho
      have h2 := List.getElem?_eq_getElem hi
      simp only [List.length_take] at hi
      rw [List.getElem?_take, if_pos (by omega)] at h2
      have : KnownV ((e1.lookup s).getD (true, Sym.any)) w' F (a'.tmps.getD s undef) := G'.head i _ s (by omega) (hall i (by omega)) (by rw [List.getElem?_toArray]; exact h2) (by simpa using hd)
      rwa [hK s k hk] at this
end
end Go.Proofs.Ytbeeiecbbmiojaa.Y
