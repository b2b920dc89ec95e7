/- A region in any order that holds one call which writes a block. No program in sight. -/
import Derived.Test.YtbeeiecbbmiojaaYpk
namespace Go.Proofs.Ytbeeiecbbmiojaa.Y
open Go.RowKit

section
variable {U : Prop} {P : Program} {ops : Array Oper} {Q : Exit → Act → World → Prop} {N : Nat}
theorem wpAny_gen {l : List Oper} {n : Nat} {D ms : List Nat} (hl : ops = l.toArray) (fb : FlowB ops D n N ms) (I : Array Bool → Act → World → Prop)
    (step : ∀ (listed : Array Bool) (a : Act) (w : World) (i : Nat) (o : Oper), i < n → ops[i]? = some o → listed.getD i true = false → i < listed.size → (∀ s ∈ usesOf ops o, s ∈ D ∨ ∃ i' o', i' < n ∧ listed.getD i' true = true ∧ ops[i']? = some o' ∧ o'.dst = some s) → I listed a w →
      ∀ R : Act → World → Prop, (∀ a' w', I (listed.setIfInBounds i true) a' w' → R a' w') → if Region.wanted o (yielded ops a.tmps) then o.wp P a w R Q else R (a.put o.dst undef) w)
    (hQ : ∀ a w listed, (∀ i, i < n → listed.getD i true = true) → I listed a w → wpList P ops Q (l.drop n) a w) :
    ∀ (k : Nat) (listed : Array Bool) (a : Act) (w : World), todo n listed ≤ k → HeadInv .any ops n listed → I listed a w → wpAny P .any ops Q (k + (ops.size - n)) listed a w := by
  have hn := fb.le
  intro k
  induction k with
  | zero =>
    intro listed a w hk inv hI
    have hall := todo_zero (Nat.le_zero.1 hk)
    have he := headInv_done hn inv hall
    have hF := hQ a w listed hall hI
    subst he
    have hlen : (l.drop n).length = ops.size - n := by rw [List.length_drop, hl]; rfl
    rcases fb.tail with e | ⟨_, _, hseq⟩
    · have hz : ops.size - n = 0 := by omega
      rw [hz]
      have hd : l.drop n = [] := List.eq_nil_of_length_eq_zero (by omega)
      rw [hd] at hF
      refine ⟨?_, hF⟩
      unfold Region.ready
      rw [List.filter_eq_nil_iff]
      intro i hi
      have := hall i (by rw [List.mem_range] at hi; omega)
      simp only [this]
      simp
    · rw [Nat.zero_add, ← hlen]
      exact wpAny_of_seq (l.drop n) n _ _ _ (fun j => by rw [hl]; simp) (by rw [hlen]; exact hseq) hF
  | succ k ih =>
    intro listed a w hk inv hI
    by_cases h0 : todo n listed ≤ k
    · exact wpAny_le (by omega) (ih listed a w h0 inv hI)
    · have hex : ∃ i, i < n ∧ listed.getD i true = false := by
        have hp : 0 < todo n listed := by omega
        obtain ⟨i, hi⟩ := List.exists_mem_of_length_pos hp
        obtain ⟨h1, h2⟩ := List.mem_filter.1 hi
        exact ⟨i, List.mem_range.1 h1, by simpa using h2⟩
      rw [show k + 1 + (ops.size - n) = (k + (ops.size - n)) + 1 by omega]
      obtain ⟨i0, hi0, hun0⟩ := hex
      refine ⟨fun hnil => ?_, fun i hi => ?_⟩
      · exfalso
        have least : ∀ d i, i ≤ d → i < n → listed.getD i true = false → ∃ j, j < n ∧ listed.getD j true = false ∧ ∀ t, t < j → listed.getD t true = true := by
          intro d
          induction d with
          | zero =>
            intro i hid hin hun
            obtain rfl : i = 0 := by omega
            exact ⟨0, hin, hun, fun t ht => absurd ht (by omega)⟩
          | succ d ihd =>
            intro i hid hin hun
            by_cases hh : ∃ t, t < i ∧ listed.getD t true = false
            · obtain ⟨t, ht, hut⟩ := hh
              exact ihd t (by omega) (by omega) hut
            · refine ⟨i, hin, hun, fun t ht => ?_⟩
              cases hg : listed.getD t true with
              | true => rfl
              | false => exact absurd ⟨t, ht, hg⟩ hh
        obtain ⟨j, hjn, hju, hjl⟩ := least i0 i0 (Nat.le_refl _) hi0 hun0
        have hjs : j < ops.size := by omega
        have hj : j ∈ Region.ready .any ops listed := by
          refine mem_ready.2 ⟨hju, ops[j], Array.getElem?_eq_getElem hjs, fun e he hbn0 => ?_⟩
          have hb := List.all_eq_true.1 fb.back j (List.mem_range.2 hjs)
          simp only [Array.getElem?_eq_getElem hjs, Option.all_some] at hb
          have he' := Array.all_eq_true'.1 hb e he
          have hlt : e.on < j := by simpa [hbn0] using he'
          have h1 := hjl e.on hlt
          have hsz := inv.size
          have hes : e.on < listed.size := by omega
          simp [hes] at h1 ⊢
          exact h1
        rw [hnil] at hj
        cases hj
      · have hin : i < n := by
          rcases Nat.lt_or_ge i n with h | h
          · exact h
          · rcases fb.tail with e | ⟨hs, hc, _⟩
            · obtain ⟨_, o, ho, _⟩ := mem_ready.1 hi
              have : i < ops.size := (Array.getElem?_eq_some_iff.1 ho).1
              omega
            · have hlt : n < ops.size := by
                obtain ⟨_, o, ho, _⟩ := mem_ready.1 hi
                have : i < ops.size := (Array.getElem?_eq_some_iff.1 ho).1
                omega
              exact absurd hi (tail_waits hs hc hlt inv _ i0 rfl hi0 hun0 i h)
        obtain ⟨hun, o, ho, hall⟩ := mem_ready.1 hi
        have hnow : ∀ s ∈ usesOf ops o, s ∈ D ∨ ∃ i' o', i' < n ∧ listed.getD i' true = true ∧ ops[i']? = some o' ∧ o'.dst = some s := fun s hs => by
          rcases fb.uses i o hin ho s hs with h | ⟨e, he, hbn, oj, hoj, hdj⟩
          · exact .inl h
          · have h1 := hall e he hbn
            have hs' : i < ops.size := (Array.getElem?_eq_some_iff.1 ho).1
            have hb := List.all_eq_true.1 fb.back i (List.mem_range.2 hs')
            simp only [ho, Option.all_some] at hb
            have he' := Array.all_eq_true'.1 hb e he
            have hlt : e.on < i := by simpa [hbn] using he'
            refine .inr ⟨e.on, oj, by omega, ?_, hoj, hdj⟩
            have hsz := inv.size
            have hes : e.on < listed.size := by omega
            simp [hes] at h1 ⊢
            exact h1
        have hsz2 : i < listed.size := by
          rcases Nat.lt_or_ge i listed.size with h | h
          · exact h
          · simp [Array.getElem?_eq_none h] at hun
        unfold wpOp
        rw [ho]
        have H := step listed a w i o hin ho hun hsz2 hnow hI (wpAny P .any ops Q (k + (ops.size - n)) (listed.setIfInBounds i true)) (fun a' w' hI' => ih _ _ _ (by have := todo_set hin hun; omega) (inv.set hi hin) hI')
        show if _ then _ else _
        split
        · rename_i hw; rw [if_pos hw] at H; exact .inl H
        · rename_i hw; rw [if_neg hw] at H; exact H

/-- Where a walk stands within such a region. -/
structure InvE (U : Prop) (ops : Array Oper) (K : Nat → Bool × Sym) (D : List Nat) (n N m g : Nat) (B G : World → Prop) (w0 : World) (F : Cell → Prop) (listed : Array Bool) (a : Act) (w : World) : Prop where
  size : a.tmps.size = N
  defers : a.defers = []
  grown : w0.grownBy w (some g)
  ahead : listed.getD m true = false → B w
  behind : listed.getD m true = true → G w
  fok : FOK U F w
  env : ∀ s ∈ D, KnownV (K s) w F (a.tmps.getD s undef)
  head : ∀ i o d, i < n → listed.getD i true = true → ops[i]? = some o → o.dst = some d → KnownV (K d) w F (a.tmps.getD d undef)
/-- The call pays. -/
def CallOK (P : Program) (ops : Array Oper) (Q : Exit → Act → World → Prop) (K : Nat → Bool × Sym) (N g : Nat) (B G : World → Prop) (U : Prop) (F : Cell → Prop) (o : Oper) : Prop :=
  ∀ (a : Act) (w : World), a.tmps.size = N → FOK U F w → (∀ s ∈ usesOf ops o, KnownV (K s) w F (a.tmps.getD s undef)) → B w → ∀ R : Act → World → Prop,
    (∀ v w', w.grownBy w' (some g) → (U → ∀ (x : Nat) (y : Int), w'.cell? ⟨g, x, none⟩ ≠ some (.int .u32 y)) → G w' → (∀ d, o.dst = some d → KnownV (K d) w' F v) → R (a.put o.dst v) w') → if Region.wanted o (yielded ops a.tmps) then o.wp P a w R Q else R (a.put o.dst undef) w
theorem InvE.step {K : Nat → Bool × Sym} {D ms : List Nat} {n m g : Nat} {B G : World → Prop} {w0 w w' : World} {F : Cell → Prop} {listed : Array Bool} {a : Act} {i : Nat} {o : Oper} {v : Value} (fb : FlowB ops D n N ms) (hms : ∀ x, x < n → x ∉ ms) (inv : InvE U ops K D n N m g B G w0 F listed a w) (hi : i < n) (hz : i < listed.size) (ho : ops[i]? = some o)
    (hg : w.grownBy w' (some g)) (hk : Keeps F w w') (hf : FOK U F w') (hA : (listed.setIfInBounds i true).getD m true = false → B w') (hB : (listed.setIfInBounds i true).getD m true = true → G w') (hv : ∀ d, o.dst = some d → KnownV (K d) w' F v) :
    InvE U ops K D n N m g B G w0 F (listed.setIfInBounds i true) (a.put o.dst v) w' := by
  obtain ⟨d, hd, hdN, hdD⟩ := fb.dst i o hi (hms i hi) ho
  have hput : (a.put o.dst v).tmps = a.tmps.setIfInBounds d v := by rw [hd]; rfl
  have hdef : (a.put o.dst v).defers = a.defers := by rw [hd]; rfl
  have hds : d < a.tmps.size := by rw [inv.size]; exact hdN
  have other : ∀ s, s ≠ d → (a.put o.dst v).tmps.getD s undef = a.tmps.getD s undef := fun s hs => by rw [hput]; exact getD_put_ne (Ne.symm hs)
  have mine : (a.put o.dst v).tmps.getD d undef = v := by rw [hput]; exact getD_put_eq hds
  refine ⟨by rw [hput]; simp [inv.size], hdef.trans inv.defers, only_trans inv.grown hg, hA, hB, hf, fun s hs => ?_, fun j oj dj hj hl hoj hdj => ?_⟩
  · rw [other s fun e => hdD (e ▸ hs)]
    exact (inv.env s hs).mono hk fun _ _ h => h
  · by_cases e : j = i
    · subst e
      rw [ho] at hoj; cases hoj
      rw [hd] at hdj; cases hdj
      rw [mine]
      exact hv d hd
    · have hne : dj ≠ d := fun e' => by subst e'; exact e (fb.own i o dj j oj hi ho hd hj hoj hdj)
      rw [other dj hne]
      exact (inv.head j oj dj hj (by rwa [getD_set_ne true (Ne.symm e)] at hl) hoj hdj).mono hk fun _ _ h => h
theorem wp_flowE {id : Nat} {l : List Oper} (n m g : Nat) (D : List Nat) (K : Nat → Bool × Sym) (N : Nat) (B G : World → Prop) {F : Cell → Prop} {a : Act} {w : World}
    (hm : P.follows .mixedOrders = true) (hB : flowB l.toArray D n N [n] = true) (hmn : m < n) (ha : a.tmps.size = N) (hd : a.defers = []) (hF : FOK U F w) (hFg : ∀ x, F (g, x)) (hK : ∀ s ∈ D, KnownV (K s) w F (a.tmps.getD s undef)) (hBw : B w)
    (keepB : ∀ {w w' : World}, B w → Below w.heap.size w w' → B w') (keepG : ∀ {w w' : World}, G w → Below w.heap.size w w' → G w')
    (hops : ∀ i o, i < n → i ≠ m → l.toArray[i]? = some o → OpOK U P l.toArray Q K [] N o) (hsp : ∀ o, l.toArray[m]? = some o → CallOK P l.toArray Q K N g B G U F o)
    (hQ : ∀ a' w' listed, (∀ i, i < n → listed.getD i true = true) → InvE U l.toArray K D n N m g B G w F listed a' w' → wpList P l.toArray Q (l.drop n) a' w') :
    (Code.region id l.toArray true).wp P Q a w := by
  have fb := flowB_iff hB
  have hms : ∀ x, x < n → x ∉ [n] := fun x hx h => by rw [List.mem_singleton.1 h] at hx; exact Nat.lt_irrefl _ hx
  refine wp_region_any hm ?_
  have hun : ∀ i, i < n → (Array.replicate l.toArray.size false).getD i true = false := fun i hi => getD_in (by have := fb.le; simp at this ⊢; omega) (getD_replicate_false _ _)
  have inv0 : HeadInv .any l.toArray n (Array.replicate l.toArray.size false) :=
    ⟨by simp, fun j oj _ hl => (by rw [getD_replicate_false] at hl; cases hl), fun t _ ht => getD_in (by simpa using ht) (getD_replicate_false _ _)⟩
  have H := wpAny_gen (P := P) (Q := Q) (ops := l.toArray) (N := N) rfl fb (InvE U l.toArray K D n N m g B G w F) (fun listed a w2 i o hi ho hun hz hnow hI R hR => by
      have hknow : ∀ s ∈ usesOf l.toArray o, KnownV (K s) w2 F (a.tmps.getD s undef) := fun s hs => by
        rcases hnow s hs with h | ⟨i', o', e1, e2, e3, e4⟩
        · exact hI.env s h
        · exact hI.head i' o' s e1 e2 e3 e4
      have hmin : m < listed.size ∨ ¬ m < listed.size := Decidable.em _
      by_cases him : i = m
      · subst him
        exact hsp o ho a w2 hI.size hI.fok hknow (hI.ahead hun) R fun v w' h1 h2 h3 h4 =>
          hR _ w' (hI.step fb hms hi hz ho h1 (keeps_grown h1 hFg) ⟨fun k hk => Nat.lt_of_lt_of_le (hI.fok.lt k hk) h1.size, fun u k hk o x => by
            by_cases e : k.1 = g
            · rw [e]; exact h2 u o x
            · rw [show w'.cell? ⟨k.1, o, none⟩ = w2.cell? ⟨k.1, o, none⟩ from World.cell?_of_block (h1.block k.1 (hI.fok.lt k hk) fun e' => e (by injection e'))]
              exact hI.fok.nou u k hk o x⟩ (fun h => by simp [hz] at h) (fun _ => h3) h4)
      · have H := hops i o hi him ho a w2 F hI.size hI.fok hknow R
        refine H fun v w' hb hv => hR _ w' (hI.step fb hms hi hz ho (only_of_below hb _) (.of hb) (hI.fok.below hb) (fun h => keepB (hI.ahead (by rwa [getD_set_ne true him] at h)) hb) (fun h => keepG (hI.behind (by rwa [getD_set_ne true him] at h)) hb) fun d hd => hv d hd))
    hQ n (Array.replicate l.toArray.size false) a w.drew
      (by unfold todo; exact Nat.le_trans (List.length_filter_le _ _) (by simp)) inv0
      ⟨ha, hd, only_drew (only_refl _ _), fun _ => keepB hBw (Below.refl _ _).drew, (fun h => by rw [hun _ hmn] at h; cases h), hF.below (Below.refl _ _).drew, fun s hs => (hK s hs).below (Below.refl _ _).drew, (fun i o d hi h => by rw [hun i hi] at h; cases h)⟩
  refine wpAny_le ?_ H
  have := fb.le
  omega
/-- The same, told operation by operation: those ahead of the call in the text, the call, those behind it. -/
theorem flowE {id : Nat} {l : List Oper} {e e1 e' : Env} {F : Cell → Prop} {a : Act} {w : World} (n m g dm : Nat) (ym : Sym) (B G : World → Prop) (hm : P.follows .mixedOrders = true) (h : StE U N e F a w) (hFg : ∀ x, F (g, x)) (hBw : B w) (keepB : ∀ {w w' : World}, B w → Below w.heap.size w w' → B w') (keepG : ∀ {w w' : World}, G w → Below w.heap.size w w' → G w')
    (hB : flowB l.toArray (e.map (·.1)) n N [n] = true) (hmn : decide (m < n) = true)
    (hC1 : Chain U P l.toArray Q N e [] (l.take m) e1 []) (hF1 : freshB (e.map (·.1)) (dstsOf (l.take m)) = true)
    (hC2 : Chain U P l.toArray Q N ((dm, true, ym) :: e1) [] ((l.take n).drop (m + 1)) e' []) (hF2 : freshB (((dm, true, ym) :: e1).map (·.1)) (dstsOf ((l.take n).drop (m + 1))) = true) (hF3 : (e1.map (·.1)).contains dm = false)
    (hcall : ∀ (a : Act) (w : World) (o : Oper), l[m]? = some o → a.tmps.size = N → FOK U F w → (∀ s ∈ usesOf l.toArray o, SlotOK e1 F a w s) → B w → ∀ R : Act → World → Prop,
      (∀ v w', w.grownBy w' (some g) → (U → ∀ (x : Nat) (y : Int), w'.cell? ⟨g, x, none⟩ ≠ some (.int .u32 y)) → G w' → ym.on w' F v → R (a.put o.dst v) w') → if Region.wanted o (yielded l.toArray a.tmps) then o.wp P a w R Q else R (a.put o.dst undef) w) (hdm : (l[m]?).bind (·.dst) = some dm)
    (hQ : ∀ a' w', w.grownBy w' (some g) → G w' → StE U N e' F a' w' → wpList P l.toArray Q (l.drop n) a' w') : (Code.region id l.toArray true).wp P Q a w := by
  have hmn' : m < n := by simpa using hmn
  have I1 := chain_ok hC1 hF1 (fun s hs => by cases hs)
  have I2 := chain_ok hC2 hF2 (fun s hs => by cases hs)
  have fb := flowB_iff hB
  have up1 : ∀ s k, e1.lookup s = some k → e'.lookup s = some k := fun s k hs => I2.ext s k (by
    rw [List.lookup_cons]
    cases hb : s == dm with
    | false => exact hs
    | true =>
      have e := lookup_mem hs
      have : s = dm := by simpa using hb
      rw [this] at e
      rw [List.contains_iff_mem.2 e] at hF3; cases hF3)
  have up0 : ∀ s k, e.lookup s = some k → e'.lookup s = some k := fun s k hs => up1 s k (I1.ext s k hs)
  have upm : e'.lookup dm = some (true, ym) := I2.ext dm _ (by rw [List.lookup_cons]; simp)
  have hK : ∀ s k, e'.lookup s = some k → (e'.lookup s).getD (true, Sym.any) = k := fun s k hs => by rw [hs]; rfl
  have hl0 : ∀ i o, l.toArray[i]? = some o → l[i]? = some o := fun i o ho => by rwa [List.getElem?_toArray] at ho
  refine wp_flowE n m g (e.map (·.1)) (fun s => (e'.lookup s).getD (true, .any)) N B G hm hB hmn' h.size h.defers h.fok hFg (fun s hs => ?_) hBw keepB keepG (fun i o hi him ho => ?_) (fun o ho => ?_) fun a' w' listed hall G' => ?_
  · obtain ⟨k, hk⟩ := lookup_some hs
    rw [hK s k (up0 s k hk)]
    exact h.known s k hk
  · have hdst : o.dst ≠ none := by
      obtain ⟨d, hd, _⟩ := fb.dst i o hi (fun h => by rw [List.mem_singleton.1 h] at hi; exact Nat.lt_irrefl _ hi) ho
      rw [hd]; exact fun h => by cases h
    rcases Nat.lt_or_ge i m with h1 | h1
    · exact I1.ok _ (fun s k hs => hK s k (up1 s k hs)) i o (by rw [List.getElem?_take, if_pos h1]; exact hl0 i o ho) hdst
    · have : i = (m + 1) + (i - (m + 1)) := by omega
      exact I2.ok _ hK (i - (m + 1)) o (by rw [List.getElem?_drop, ← this, List.getElem?_take, if_pos hi]; exact hl0 i o ho) hdst
  · intro a w hsz hf hknow hBw' R hR
    have hl := hl0 m o ho
    refine hcall a w o hl hsz hf (fun s hs k hk => ?_) hBw' R fun v w' h1 h2 h3 h4 => hR v w' h1 h2 h3 fun d hd => ?_
    · have : KnownV ((e'.lookup s).getD (true, Sym.any)) w F (a.tmps.getD s undef) := hknow s hs
      rwa [hK s k (up1 s k hk)] at this
    · have : d = dm := by rw [hl] at hdm; simp at hdm; rw [hdm] at hd; cases hd; rfl
      subst this
      show KnownV ((e'.lookup d).getD (true, Sym.any)) w' F v
      rw [hK d _ upm]
      exact ⟨fun _ => h4, fun e => by cases e⟩
  · refine hQ a' w' G'.grown (G'.behind (hall m hmn')) ⟨G'.size, G'.defers, G'.fok, fun s k hk => ?_⟩
    have keys : s ∈ e.map (·.1) ∨ s = dm ∨ s ∈ dstsOf (l.take m) ∨ s ∈ dstsOf ((l.take n).drop (m + 1)) := by
      rcases List.mem_append.1 (I2.keys s k hk) with h1 | h1
      · rcases List.mem_cons.1 h1 with h1 | h1
        · exact .inr (.inl h1)
        · obtain ⟨k1, hk1⟩ := lookup_some h1
          rcases List.mem_append.1 (I1.keys s k1 hk1) with h2 | h2
          · exact .inl h2
          · exact .inr (.inr (.inl h2))
      · exact .inr (.inr (.inr h1))
    have viaOp : ∀ i o, i < n → l.toArray[i]? = some o → o.dst = some s → KnownV k w' F (a'.tmps.getD s undef) := fun i o hi ho hd => by
      have : KnownV ((e'.lookup s).getD (true, Sym.any)) w' F (a'.tmps.getD s undef) := G'.head i o s hi (hall i hi) ho hd
      rwa [hK s k hk] at this
    rcases keys with h1 | rfl | h1 | h1
    · have : KnownV ((e'.lookup s).getD (true, Sym.any)) w' F (a'.tmps.getD s undef) := G'.env s h1
      rwa [hK s k hk] at this
    · cases ho : l[m]? with
      | none => rw [ho] at hdm; cases hdm
      | some o => exact viaOp m o hmn' (by simpa using ho) (by rw [ho] at hdm; simpa using hdm)
    · obtain ⟨o, ho, hd⟩ := List.mem_flatMap.1 h1
      obtain ⟨i, hi, rfl⟩ := List.getElem_of_mem ho
      have h2 := List.getElem?_eq_getElem hi
      simp only [List.length_take] at hi
      rw [List.getElem?_take, if_pos (by omega)] at h2
      exact viaOp i _ (by omega) (by rw [List.getElem?_toArray]; exact h2) (by simpa using hd)
    · obtain ⟨o, ho, hd⟩ := List.mem_flatMap.1 h1
      obtain ⟨i, hi, rfl⟩ := List.getElem_of_mem ho
      have h2 := List.getElem?_eq_getElem hi
      rw [List.getElem?_drop] at h2
      simp only [List.length_drop, List.length_take] at hi
      rw [List.getElem?_take, if_pos (by omega)] at h2
      exact viaOp (m + 1 + i) _ (by omega) (by rw [List.getElem?_toArray]; exact h2) (by simpa using hd)
end
end Go.Proofs.Ytbeeiecbbmiojaa.Y
