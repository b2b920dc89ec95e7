/- A region in any order that holds one call without a result, which writes a block. No program in sight. -/
import Derived.Test.YtbeeiecbbmiojaaYcallv
namespace Go.Proofs.Ytbeeiecbbmiojaa.Y
open Go.RowKit

section
variable {U : Prop} {P : Program} {ops : Array Oper} {Q : Exit → Act → World → Prop} {N : Nat}
/-- Where a walk stands within such a region. -/
structure InvN (U : Prop) (ops : Array Oper) (K : Nat → Bool × Sym) (D : List Nat) (n N m g : Nat) (B G : World → Prop) (w0 : World) (F : Cell → Prop) (listed : Array Bool) (a : Act) (w : World) : Prop where
  size : a.tmps.size = N
  defers : a.defers = []
  grown : w0.grownBy w (some g)
  ahead : listed.getD m true = false → B w
  behind : listed.getD m true = true → G w
  fok : FOK U F w
  env : ∀ s ∈ D, KnownV (K s) w F (a.tmps.getD s undef)
  head : ∀ i o d, i < n → listed.getD i true = true → ops[i]? = some o → o.dst = some d → KnownV (K d) w F (a.tmps.getD d undef)
/-- The call pays. -/
def CallOKN (P : Program) (ops : Array Oper) (Q : Exit → Act → World → Prop) (K : Nat → Bool × Sym) (N g : Nat) (B G : World → Prop) (U : Prop) (F : Cell → Prop) (o : Oper) : Prop :=
  ∀ (a : Act) (w : World), a.tmps.size = N → FOK U F w → (∀ s ∈ usesOf ops o, KnownV (K s) w F (a.tmps.getD s undef)) → B w → ∀ R : Act → World → Prop,
    (∀ v w', w.grownBy w' (some g) → (U → ∀ (x : Nat) (y : Int), w'.cell? ⟨g, x, none⟩ ≠ some (.int .u32 y)) → G w' → R (a.put o.dst v) w') → if Region.wanted o (yielded ops a.tmps) then o.wp P a w R Q else R (a.put o.dst undef) w
theorem InvN.step {K : Nat → Bool × Sym} {D ms : List Nat} {n m g : Nat} {B G : World → Prop} {w0 w w' : World} {F : Cell → Prop} {listed : Array Bool} {a : Act} {i : Nat} {o : Oper} {v : Value} (fb : FlowB ops D n N ms) (him : i ∉ ms) (inv : InvN U ops K D n N m g B G w0 F listed a w) (hi : i < n) (hz : i < listed.size) (ho : ops[i]? = some o)
    (hg : w.grownBy w' (some g)) (hk : Keeps F w w') (hf : FOK U F w') (hA : (listed.setIfInBounds i true).getD m true = false → B w') (hB : (listed.setIfInBounds i true).getD m true = true → G w') (hv : ∀ d, o.dst = some d → KnownV (K d) w' F v) :
    InvN U ops K D n N m g B G w0 F (listed.setIfInBounds i true) (a.put o.dst v) w' := by
  obtain ⟨d, hd, hdN, hdD⟩ := fb.dst i o hi him ho
  have hput : (a.put o.dst v).tmps = a.tmps.setIfInBounds d v := by rw [hd]; rfl
  have hdef : (a.put o.dst v).defers = a.defers := by rw [hd]; rfl
  have hds : d < a.tmps.size := by rw [inv.size]; exact hdN
  have other : ∀ s, s ≠ d → (a.put o.dst v).tmps.getD s undef = a.tmps.getD s undef := fun s hs => by rw [hput]; exact getD_put_ne (Ne.symm hs)
  have mine : (a.put o.dst v).tmps.getD d undef = v := by rw [hput]; exact getD_put_eq hds
  refine ⟨by rw [hput]; simp [inv.size], hdef.trans inv.defers, only_trans inv.grown hg, hA, hB, hf, fun s hs => ?_, fun j oj dj hj hl hoj hdj => ?_⟩
  · rw [other s fun e => hdD (e ▸ hs)]
    exact (inv.env s hs).mono hk fun _ _ h => h
  · by_cases e : j = i
    · subst e
      rw [ho] at hoj; cases hoj
      rw [hd] at hdj; cases hdj
      rw [mine]
      exact hv d hd
    · have hne : dj ≠ d := fun e' => by subst e'; exact e (fb.own i o dj j oj hi ho hd hj hoj hdj)
      rw [other dj hne]
      exact (inv.head j oj dj hj (by rwa [getD_set_ne true (Ne.symm e)] at hl) hoj hdj).mono hk fun _ _ h => h
theorem InvN.stepM {K : Nat → Bool × Sym} {D : List Nat} {n m g : Nat} {B G : World → Prop} {w0 w w' : World} {F : Cell → Prop} {listed : Array Bool} {a : Act} {i : Nat} {o : Oper} {v : Value} (inv : InvN U ops K D n N m g B G w0 F listed a w) (ho : ops[i]? = some o) (hdn : o.dst = none)
    (hg : w.grownBy w' (some g)) (hk : Keeps F w w') (hf : FOK U F w') (hA : (listed.setIfInBounds i true).getD m true = false → B w') (hB : (listed.setIfInBounds i true).getD m true = true → G w') :
    InvN U ops K D n N m g B G w0 F (listed.setIfInBounds i true) (a.put o.dst v) w' := by
  rw [hdn]
  refine ⟨inv.size, inv.defers, only_trans inv.grown hg, hA, hB, hf, fun s hs => (inv.env s hs).mono hk fun _ _ h => h, fun j oj dj hj hl hoj hdj => ?_⟩
  by_cases e : j = i
  · subst e
    rw [ho] at hoj; cases hoj
    rw [hdn] at hdj; cases hdj
  · exact (inv.head j oj dj hj (by rwa [getD_set_ne true (Ne.symm e)] at hl) hoj hdj).mono hk fun _ _ h => h
theorem wp_flowEN {id : Nat} {l : List Oper} (n m g : Nat) (D : List Nat) (K : Nat → Bool × Sym) (N : Nat) (B G : World → Prop) {F : Cell → Prop} {a : Act} {w : World}
    (hm : P.follows .mixedOrders = true) (hB : flowB l.toArray D n N [m] = true) (hdn : (l.toArray[m]?).bind (·.dst) = none) (hmn : m < n) (ha : a.tmps.size = N) (hd : a.defers = []) (hF : FOK U F w) (hFg : ∀ x, F (g, x)) (hK : ∀ s ∈ D, KnownV (K s) w F (a.tmps.getD s undef)) (hBw : B w)
    (keepB : ∀ {w w' : World}, B w → Below w.heap.size w w' → B w') (keepG : ∀ {w w' : World}, G w → Below w.heap.size w w' → G w')
    (hops : ∀ i o, i < n → i ≠ m → l.toArray[i]? = some o → OpOK U P l.toArray Q K [] N o) (hsp : ∀ o, l.toArray[m]? = some o → CallOKN P l.toArray Q K N g B G U F o)
    (hQ : ∀ a' w' listed, (∀ i, i < n → listed.getD i true = true) → InvN U l.toArray K D n N m g B G w F listed a' w' → wpList P l.toArray Q (l.drop n) a' w') :
    (Code.region id l.toArray true).wp P Q a w := by
  have fb := flowB_iff hB
  refine wp_region_any hm ?_
  have hun : ∀ i, i < n → (Array.replicate l.toArray.size false).getD i true = false := fun i hi => getD_in (by have := fb.le; simp at this ⊢; omega) (getD_replicate_false _ _)
  have inv0 : HeadInv .any l.toArray n (Array.replicate l.toArray.size false) :=
    ⟨by simp, fun j oj _ hl => (by rw [getD_replicate_false] at hl; cases hl), fun t _ ht => getD_in (by simpa using ht) (getD_replicate_false _ _)⟩
  have H := wpAny_gen (P := P) (Q := Q) (ops := l.toArray) (N := N) rfl fb (InvN U l.toArray K D n N m g B G w F) (fun listed a w2 i o hi ho hun hz hnow hI R hR => by
      have hknow : ∀ s ∈ usesOf l.toArray o, KnownV (K s) w2 F (a.tmps.getD s undef) := fun s hs => by
        rcases hnow s hs with h | ⟨i', o', e1, e2, e3, e4⟩
        · exact hI.env s h
        · exact hI.head i' o' s e1 e2 e3 e4
      have hmin : m < listed.size ∨ ¬ m < listed.size := Decidable.em _
      by_cases him : i = m
      · subst him
        exact hsp o ho a w2 hI.size hI.fok hknow (hI.ahead hun) R fun v w' h1 h2 h3 =>
          hR _ w' (hI.stepM ho (by rw [ho] at hdn; exact hdn) h1 (keeps_grown h1 hFg) ⟨fun k hk => Nat.lt_of_lt_of_le (hI.fok.lt k hk) h1.size, fun u k hk o x => by
            by_cases e : k.1 = g
            · rw [e]; exact h2 u o x
            · rw [show w'.cell? ⟨k.1, o, none⟩ = w2.cell? ⟨k.1, o, none⟩ from World.cell?_of_block (h1.block k.1 (hI.fok.lt k hk) fun e' => e (by injection e'))]
              exact hI.fok.nou u k hk o x⟩ (fun h => by simp [hz] at h) (fun _ => h3))
      · have H := hops i o hi him ho a w2 F hI.size hI.fok hknow R
        refine H fun v w' hb hv => hR _ w' (hI.step fb (fun h => him (List.mem_singleton.1 h)) hi hz ho (only_of_below hb _) (.of hb) (hI.fok.below hb) (fun h => keepB (hI.ahead (by rwa [getD_set_ne true him] at h)) hb) (fun h => keepG (hI.behind (by rwa [getD_set_ne true him] at h)) hb) fun d hd => hv d hd))
    hQ n (Array.replicate l.toArray.size false) a w.drew
      (by unfold todo; exact Nat.le_trans (List.length_filter_le _ _) (by simp)) inv0
      ⟨ha, hd, only_drew (only_refl _ _), fun _ => keepB hBw (Below.refl _ _).drew, (fun h => by rw [hun _ hmn] at h; cases h), hF.below (Below.refl _ _).drew, fun s hs => (hK s hs).below (Below.refl _ _).drew, (fun i o d hi h => by rw [hun i hi] at h; cases h)⟩
  refine wpAny_le ?_ H
  have := fb.le
  omega
/-- The same, told operation by operation: those ahead of the call in the text, the call, those behind it. -/
theorem flowEN {id : Nat} {l : List Oper} {e e1 : Env} {F : Cell → Prop} {a : Act} {w : World} (n m g : Nat) (B G : World → Prop) (hm : P.follows .mixedOrders = true) (h : StE U N e F a w) (hFg : ∀ x, F (g, x)) (hBw : B w) (keepB : ∀ {w w' : World}, B w → Below w.heap.size w w' → B w') (keepG : ∀ {w w' : World}, G w → Below w.heap.size w w' → G w')
    (hB : flowB l.toArray (e.map (·.1)) n N [m] = true) (hmn : n = m + 1) (hdn : (l.toArray[m]?).bind (·.dst) = none)
    (hC1 : Chain U P l.toArray Q N e [] (l.take m) e1 []) (hF1 : freshB (e.map (·.1)) (dstsOf (l.take m)) = true)
    (hcall : ∀ (a : Act) (w : World) (o : Oper), l[m]? = some o → a.tmps.size = N → FOK U F w → (∀ s ∈ usesOf l.toArray o, SlotOK e1 F a w s) → B w → ∀ R : Act → World → Prop,
      (∀ v w', w.grownBy w' (some g) → (U → ∀ (x : Nat) (y : Int), w'.cell? ⟨g, x, none⟩ ≠ some (.int .u32 y)) → G w' → R (a.put o.dst v) w') → if Region.wanted o (yielded l.toArray a.tmps) then o.wp P a w R Q else R (a.put o.dst undef) w)
    (hQ : ∀ a' w', w.grownBy w' (some g) → G w' → StE U N e1 F a' w' → wpList P l.toArray Q (l.drop n) a' w') : (Code.region id l.toArray true).wp P Q a w := by
  have hmn' : m < n := by omega
  have I1 := chain_ok hC1 hF1 (fun s hs => by cases hs)
  have fb := flowB_iff hB
  have up0 : ∀ s k, e.lookup s = some k → e1.lookup s = some k := I1.ext
  have hK : ∀ s k, e1.lookup s = some k → (e1.lookup s).getD (true, Sym.any) = k := fun s k hs => by rw [hs]; rfl
  have hl0 : ∀ i o, l.toArray[i]? = some o → l[i]? = some o := fun i o ho => by rwa [List.getElem?_toArray] at ho
  refine wp_flowEN n m g (e.map (·.1)) (fun s => (e1.lookup s).getD (true, .any)) N B G hm hB hdn hmn' h.size h.defers h.fok hFg (fun s hs => ?_) hBw keepB keepG (fun i o hi him ho => ?_) (fun o ho => ?_) fun a' w' listed hall G' => ?_
  · obtain ⟨k, hk⟩ := lookup_some hs
    rw [hK s k (up0 s k hk)]
    exact h.known s k hk
  · have hdst : o.dst ≠ none := by
      obtain ⟨d, hd, _⟩ := fb.dst i o hi (fun h => him (List.mem_singleton.1 h)) ho
      rw [hd]; exact fun h => by cases h
    exact I1.ok _ hK i o (by rw [List.getElem?_take, if_pos (by omega)]; exact hl0 i o ho) hdst
  · intro a w hsz hf hknow hBw' R hR
    have hl := hl0 m o ho
    refine hcall a w o hl hsz hf (fun s hs k hk => ?_) hBw' R fun v w' h1 h2 h3 => hR v w' h1 h2 h3
    have : KnownV ((e1.lookup s).getD (true, Sym.any)) w F (a.tmps.getD s undef) := hknow s hs
    rwa [hK s k hk] at this
  · refine hQ a' w' G'.grown (G'.behind (hall m hmn')) ⟨G'.size, G'.defers, G'.fok, fun s k hk => ?_⟩
    rcases List.mem_append.1 (I1.keys s k hk) with h1 | h1
    · have : KnownV ((e1.lookup s).getD (true, Sym.any)) w' F (a'.tmps.getD s undef) := G'.env s h1
      rwa [hK s k hk] at this
    · obtain ⟨o, ho, hd⟩ := List.mem_flatMap.1 h1
      obtain ⟨i, hi, rfl⟩ := List.getElem_of_mem ho
      have h2 := List.getElem?_eq_getElem hi
      simp only [List.length_take] at hi
      rw [List.getElem?_take, if_pos (by omega)] at h2
      have : KnownV ((e1.lookup s).getD (true, Sym.any)) w' F (a'.tmps.getD s undef) := G'.head i _ s (by omega) (hall i (by omega)) (by rw [List.getElem?_toArray]; exact h2) (by simpa using hd)
      rwa [hK s k hk] at this
end
end Go.Proofs.Ytbeeiecbbmiojaa.Y
