/- MTa: Ytm, Ytp, Ytops, Ytf, one behind the other. -/
import Derived.Test.YtbeeiecbbmiojaaYout
import Derived.Test.YtbeeiecbbmiojaaYops

/- Ytm: a table of objects: what lies where -/
namespace Go.Proofs.Ytbeeiecbbmiojaa.Y
open Go.RowKit Go.ChangeShapes Go.WideShapes Go.ChangeAt Go.ChangeMaps Go.MapKept

/-- An object: its name, kind, container, what is in it, and where its thread lies and on which core it runs. -/
structure TO where
  name : Int
  kind : Int
  home : Int
  kids : List Int
  th : Option (Nat × Int)
abbrev ptrV (g : Nat) : Value := .pointer (some ⟨g, 0, none⟩)
abbrev nilP : Value := .pointer none
abbrev kE (n : Int) : List Value := [.int .u64 n]
abbrev pE (g : Nat) : List Value := [ptrV g]
def thV (o : TO) : Value := match o.th with
  | some (g, _) => ptrV g
  | none => nilP
abbrev toC (o : TO) (kv : Value) : Array Value := #[.slice none 0 0, .int .u64 0, .int .u64 o.name, .int .i64 o.kind, .int .i64 0, .slice none 0 0, .int .u64 o.home, .int .u64 0, .int .i64 0, .int .i64 0, .int .i64 0, .int .i64 0, .int .u64 0, .int .u64 0, .int .u64 0, kv, .slice none 0 0, .int .u64 0, .slice none 0 0, thV o, .int .i64 0, .slice none 0 0, .int .u64 0, .int .u64 0, .slice none 0 0, .slice none 0 0, .slice none 0 0, .slice none 0 0, .slice none 0 0, .slice none 0 0, .slice none 0 0, .slice none 0 0, .int .i64 0, .int .i64 0, .int .i64 0, .slice none 0 0]
abbrev thC (on : Int) : Array Value := #[.int .u64 0, .int .u64 0, .int .u64 0, .int .u64 0, .int .u64 0, .int .u64 0, .int .u64 0, .int .u64 0, .int .u64 0, .int .u64 0, .int .u64 0, .int .u64 0, .int .u64 0, .int .u64 0, .int .u64 0, .int .u64 0, .int .u64 0, .int .i64 0, .slice none 0 0, .int .u64 0, .int .i64 0, .int .i64 on, .int .i64 0, .int .i64 0, .int .i64 0, .int .i64 0, .int .u64 0, .int .i64 0, .int .u64 0, .int .u64 0, .int .u64 0, .slice none 0 0, .int .i64 0, .slice none 0 0, .int .i64 0, .slice none 0 0, .slice none 0 0, .int .i64 0, .slice none 0 0]
structure ObjAt (w : World) (B g : Nat) (o : TO) (kv : Value) : Prop where
  blk : Blk w g 48 (toC o kv)
  row : w.ownsRow B 28 1 kv o.kids.length (o.kids.flatMap kE)
  th : ∀ x on, o.th = some (x, on) → Blk w x 66 (thC on) ∧ B ≤ x
/-- A table: which block each name tells, and which object lies in a block. -/
structure Tab where
  tm : List (Int × Nat)
  ob : Nat → Option TO
def Tab.vals (t : Tab) : List (Int × Value) := t.tm.map fun p => (p.1, ptrV p.2)
def upd {α : Type} (f : Nat → α) (g : Nat) (x : α) : Nat → α := fun y => if y = g then x else f y
theorem upd_self {α : Type} {f : Nat → α} {g : Nat} {x : α} : upd f g x g = x := if_pos rfl
theorem upd_ne {α : Type} {f : Nat → α} {g h : Nat} {x : α} (hn : h ≠ g) : upd f g x h = f h := if_neg hn
theorem vals_look : ∀ (l : List (Int × Nat)) (n : Int), (l.map fun p => (p.1, ptrV p.2)).lookup n = (l.lookup n).map ptrV
  | [], _ => rfl
  | (k, g) :: t, n => by
    rw [List.map_cons, List.lookup_cons, List.lookup_cons]
    cases n == k with
    | true => rfl
    | false => exact vals_look t n
theorem Tab.look (t : Tab) (n : Int) : t.vals.lookup n = (t.tm.lookup n).map ptrV := vals_look _ _
theorem Tab.look_none {t : Tab} {n : Int} (h : t.tm.lookup n = none) : (t.vals.lookup n).getD nilP = nilP := by rw [t.look, h]; rfl
theorem Tab.look_some {t : Tab} {n : Int} {g : Nat} (h : t.tm.lookup n = some g) : (t.vals.lookup n).getD nilP = ptrV g := by rw [t.look, h]; rfl
/-- The table's blocks. -/
def TabB (gT gM : Nat) (t : Tab) (kv : Nat → Value) (i : Nat) : Prop := i = gT ∨ i = gM ∨ ∃ g o, t.ob g = some o ∧ (i = g ∨ (kv g).ownBlock = some i ∨ ∃ on, o.th = some (i, on))
structure TabAt (w : World) (B gT gM : Nat) (t : Tab) (kv : Nat → Value) : Prop where
  tb : Blk w gT 104 #[.map (some gM)]
  mp : MapAt w gM .u64 t.vals
  ob : ∀ g o, t.ob g = some o → ObjAt w B g o (kv g)
  kd : ∀ g h o q, t.ob g = some o → t.ob h = some q → g ≠ h → (kv g).ownBlock = none ∨ (kv g).ownBlock ≠ (kv h).ownBlock
  bT : B ≤ gT
  bM : B ≤ gM
  bo : ∀ g o, t.ob g = some o → B ≤ g
/-- Each name tells an object of that name. -/
def Tab.Ok (t : Tab) : Prop := ∀ n g, t.tm.lookup n = some g → ∃ o, t.ob g = some o ∧ o.name = n
theorem blk_ne {w : World} {g h : Nat} {t u : TypeId} {cs ds : Array Value} (h1 : Blk w g t cs) (h2 : Blk w h u ds) (hn : t ≠ u) : g ≠ h := fun e => by
  subst e
  unfold Blk at h1 h2
  rw [h1] at h2
  injection h2 with h2
  injection h2 with _ h2
  exact hn h2
theorem map_ne {w : World} {g b : Nat} {t : TypeId} {cs : Array Value} {k : IntKind} {l : List (Int × Value)} (h1 : Blk w g t cs) (h2 : MapAt w b k l) : g ≠ b := fun e => by
  subst e
  obtain ⟨es, c, h3, _⟩ := h2
  unfold Blk at h1
  rw [h1] at h3
  cases h3
theorem row_ne {w : World} {g B E k n : Nat} {t : TypeId} {cs : Array Value} {v : Value} {xs : List Value} (h1 : Blk w g t cs) (h2 : w.ownsRow B E k v n xs) (hn : t ≠ E) : v.ownBlock ≠ some g := Ne.symm (own_ne h2 h1 (Ne.symm hn))
theorem row_map {w : World} {b B E k n : Nat} {v : Value} {xs : List Value} {kk : IntKind} {l : List (Int × Value)} (h1 : MapAt w b kk l) (h2 : w.ownsRow B E k v n xs) : v.ownBlock ≠ some b := fun e => by
  obtain ⟨_, cs, hb⟩ := own_row_blk h2 e
  exact map_ne hb h1 rfl
theorem own_grownR {w w' : World} {B E k n : Nat} {v : Value} {xs : List Value} {r : Option Nat} (h : w.ownsRow B E k v n xs) (hg : w.grownBy w' r) (hn : v.ownBlock = none ∨ v.ownBlock ≠ r) : w'.ownsRow B E k v n xs := h.kept hg hn
section
variable {w w' : World} {B gT gM : Nat} {t : Tab} {kv : Nat → Value}
theorem TabAt.lt (h : TabAt w B gT gM t kv) {i : Nat} (hi : TabB gT gM t kv i) : B ≤ i ∧ i < w.heap.size := by
  rcases hi with rfl | rfl | ⟨g, o, h1, rfl | h2 | ⟨on, h2⟩⟩
  · exact ⟨h.bT, h.tb.lt⟩
  · exact ⟨h.bM, h.mp.lt⟩
  · exact ⟨h.bo _ _ h1, (h.ob _ _ h1).blk.lt⟩
  · obtain ⟨_, cs, hb⟩ := own_row_blk (h.ob _ _ h1).row h2
    exact ⟨own_base (h.ob _ _ h1).row h2, hb.lt⟩
  · exact ⟨((h.ob _ _ h1).th _ _ h2).2, ((h.ob _ _ h1).th _ _ h2).1.lt⟩
theorem TabAt.only {S : Nat → Prop} (h : TabAt w B gT gM t kv) (ho : OnlyB S w w') (hn : ∀ i, TabB gT gM t kv i → ¬ S i) : TabAt w' B gT gM t kv :=
  ⟨blk_only h.tb ho (hn _ (.inl rfl)), h.mp.only ho (hn _ (.inr (.inl rfl))), fun g o h1 => ⟨blk_only (h.ob g o h1).blk ho (hn _ (.inr (.inr ⟨g, o, h1, .inl rfl⟩))), own_only (h.ob g o h1).row ho fun _ hx => hn _ (.inr (.inr ⟨g, o, h1, .inr (.inl hx)⟩)), fun x on hx => ⟨blk_only ((h.ob g o h1).th x on hx).1 ho (hn _ (.inr (.inr ⟨g, o, h1, .inr (.inr ⟨on, hx⟩)⟩))), ((h.ob g o h1).th x on hx).2⟩⟩, h.kd, h.bT, h.bM, h.bo⟩
theorem TabAt.below (h : TabAt w B gT gM t kv) (hb : Below w.heap.size w w') : TabAt w' B gT gM t kv := h.only (S := fun _ => False) (.of_below hb) fun _ _ h => h
theorem TabAt.grown {r : Option Nat} (h : TabAt w B gT gM t kv) (hg : w.grownBy w' r) (hn : ∀ i, TabB gT gM t kv i → r ≠ some i) : TabAt w' B gT gM t kv :=
  h.only (S := fun i => r = some i) ((OnlyB.refl _ w).grown hg fun _ _ e => e) fun i hi e => hn i hi e
/-- The map is written. -/
theorem TabAt.put {tm' : List (Int × Nat)} (h : TabAt w B gT gM t kv) (hm : MapAt w' gM .u64 (tm'.map fun p => (p.1, ptrV p.2))) (hg : w.grownBy w' (some gM)) : TabAt w' B gT gM ⟨tm', t.ob⟩ kv :=
  ⟨h.tb.grown hg (fun e => map_ne h.tb h.mp (by injection e)), hm, fun g o h1 => ⟨(h.ob g o h1).blk.grown hg (fun e => map_ne (h.ob g o h1).blk h.mp (by injection e)), own_grownR (h.ob g o h1).row hg (.inr (row_map h.mp (h.ob g o h1).row)), fun x on hx => ⟨((h.ob g o h1).th x on hx).1.grown hg (fun e => map_ne ((h.ob g o h1).th x on hx).1 h.mp (by injection e)), ((h.ob g o h1).th x on hx).2⟩⟩, h.kd, h.bT, h.bM, h.bo⟩
/-- An object comes to lie beside the others. -/
theorem TabAt.more {g : Nat} {o : TO} {v : Value} (h : TabAt w B gT gM t kv) (ho : ObjAt w B g o v) (hg : B ≤ g) (hn : t.ob g = none) (hv : v.ownBlock = none) : TabAt w B gT gM ⟨t.tm, upd t.ob g (some o)⟩ (upd kv g v) := by
  refine ⟨h.tb, h.mp, fun x q hx => ?_, fun x y q r hx hy hxy => ?_, h.bT, h.bM, fun x q hx => ?_⟩
  · replace hx : upd t.ob g (some o) x = some q := hx
    by_cases e : x = g
    · subst e
      rw [upd_self] at hx ⊢
      injection hx with hx
      exact hx ▸ ho
    · rw [upd_ne e] at hx ⊢
      exact h.ob x q hx
  · replace hx : upd t.ob g (some o) x = some q := hx
    replace hy : upd t.ob g (some o) y = some r := hy
    by_cases e : x = g
    · subst e
      rw [upd_self]
      exact .inl hv
    · rw [upd_ne e] at hx ⊢
      by_cases e2 : y = g
      · subst e2
        rw [upd_self, hv]
        cases (kv x).ownBlock with
        | none => exact .inl rfl
        | some _ => exact .inr fun h => by cases h
      · rw [upd_ne e2] at hy ⊢
        exact h.kd x y q r hx hy hxy
  · replace hx : upd t.ob g (some o) x = some q := hx
    by_cases e : x = g
    · exact e ▸ hg
    · rw [upd_ne e] at hx
      exact h.bo x q hx
/-- An object's kids are laid anew: first the row, then the object. -/
theorem TabAt.kids {w2 : World} {g : Nat} {o : TO} {ks : List Int} {v : Value} (h : TabAt w B gT gM t kv) (hg : t.ob g = some o) (hr : w.grownBy w' (kv g).ownBlock ∨ Below w.heap.size w w') (hv : w'.ownsRow B 28 1 v ks.length (ks.flatMap kE)) (hb : v.ownBlock = (kv g).ownBlock ∨ ∀ x, v.ownBlock = some x → w.heap.size ≤ x)
    (hB : Blk w2 g 48 (toC { o with kids := ks } v)) (hs : w'.grownBy w2 (some g)) : TabAt w2 B gT gM ⟨t.tm, upd t.ob g (some { o with kids := ks })⟩ (upd kv g v) := by
  have hO := h.ob g o hg
  have hr' : w.grownBy w' (kv g).ownBlock := hr.elim id fun h => only_of_below h _
  have far : ∀ {x : Nat} {u : TypeId} {cs : Array Value}, Blk w x u cs → u ≠ 28 → x ≠ g → Blk w2 x u cs := fun {x u cs} hx hu hxg => (hx.grown hr' (Ne.symm (row_ne hx hO.row hu))).grown hs (fun e => hxg (by injection e))
  have hgT : gT ≠ g := blk_ne h.tb hO.blk (by decide)
  have hne : ∀ x, v.ownBlock ≠ (kv g).ownBlock → v.ownBlock = some x → w.heap.size ≤ x := fun x hn hx => hb.elim (fun e => absurd e hn) fun h => h x hx
  have same : ∀ x q, t.ob x = some q → x ≠ g → ObjAt w2 B x q (kv x) := fun x q hx hxg => by
    have hX := h.ob x q hx
    refine ⟨far hX.blk (by decide) hxg, own_grownR (own_grownR hX.row hr' (h.kd x g q o hx hg hxg)) hs (.inr ?_), fun y on hy => ⟨far (hX.th y on hy).1 (by decide) (blk_ne (hX.th y on hy).1 hO.blk (by decide)), (hX.th y on hy).2⟩⟩
    exact row_ne hO.blk hX.row (by decide)
  refine ⟨far h.tb (by decide) hgT, ?_, fun x q hx => ?_, fun x y q r hx hy hxy => ?_, h.bT, h.bM, fun x q hx => ?_⟩
  · exact (h.mp.grown hr' (row_map h.mp hO.row)).grown hs (fun e => map_ne hO.blk h.mp (by injection e))
  · replace hx : upd t.ob g (some { o with kids := ks }) x = some q := hx
    by_cases e : x = g
    · subst e
      rw [upd_self] at hx ⊢
      injection hx with hx
      subst hx
      refine ⟨hB, own_grownR hv hs (.inr ?_), fun y on hy => ⟨far (hO.th y on hy).1 (by decide) (blk_ne (hO.th y on hy).1 hO.blk (by decide)), (hO.th y on hy).2⟩⟩
      exact row_ne (hO.blk.grown hr' (Ne.symm (row_ne hO.blk hO.row (by decide)))) hv (by decide)
    · rw [upd_ne e] at hx ⊢
      exact same x q hx e
  · have sep : ∀ z r, t.ob z = some r → z ≠ g → v.ownBlock = none ∨ v.ownBlock ≠ (kv z).ownBlock := fun z r hz hzg => by
      rcases hb with hb | hb
      · rw [hb]; exact h.kd g z o r hg hz (fun e => hzg e.symm)
      · cases hv' : v.ownBlock with
        | none => exact .inl rfl
        | some i =>
          refine .inr fun e => ?_
          obtain ⟨_, cs, hb2⟩ := own_row_blk (h.ob z r hz).row e.symm
          exact absurd hb2.lt (Nat.not_lt.2 (hb i hv'))
    replace hx : upd t.ob g (some { o with kids := ks }) x = some q := hx
    replace hy : upd t.ob g (some { o with kids := ks }) y = some r := hy
    by_cases e : x = g
    · subst e
      have hyx : y ≠ x := fun e => hxy e.symm
      rw [upd_ne hyx] at hy ⊢
      rw [upd_self]
      exact sep y r hy hyx
    · rw [upd_ne e] at hx ⊢
      by_cases e2 : y = g
      · subst e2
        rw [upd_self]
        rcases sep x q hx e with hs | hs
        · cases hk : (kv x).ownBlock with
          | none => exact .inl rfl
          | some _ => rw [hs]; exact .inr fun h => by cases h
        · exact .inr fun e => hs e.symm
      · rw [upd_ne e2] at hy ⊢
        exact h.kd x y q r hx hy hxy
  · replace hx : upd t.ob g (some { o with kids := ks }) x = some q := hx
    by_cases e : x = g
    · exact e ▸ h.bo g o hg
    · rw [upd_ne e] at hx
      exact h.bo x q hx
end

end Go.Proofs.Ytbeeiecbbmiojaa.Y

/- Ytp: what a table does, in plain Lean -/
namespace Go.Proofs.Ytbeeiecbbmiojaa.Y
open Go.RowKit Go.ChangeShapes Go.WideShapes Go.ChangeAt Go.ChangeMaps Go.MapKept

/-- The container that an object is to come into. -/
def homeOf (t : Tab) (o : TO) : Option (Nat × TO) := match t.tm.lookup o.home with
  | some g => (t.ob g).map fun h => (g, h)
  | none => none
def mayAdd (t : Tab) (o : TO) : Bool := match homeOf t o with
  | some (_, h) => h.kind == 1 || (o.name == 1 && o.home == 0)
  | none => o.name == 1 && o.home == 0
def addB (t : Tab) (o : TO) : Bool := (o.name != 0 && (t.tm.lookup o.name).isNone) && mayAdd t o
def addO (t : Tab) (o : TO) : Nat → Option TO := match homeOf t o with
  | some (g, h) => upd t.ob g (some { h with kids := h.kids ++ [o.name] })
  | none => t.ob
def addT (t : Tab) (g : Nat) (o : TO) : Tab := ⟨t.tm ++ [(o.name, g)], upd (addO t o) g (some o)⟩
/-- So many names told at once. -/
def pops (tm : List (Int × Nat)) : List Int → Option (List Nat)
  | [] => some []
  | k :: ks => match tm.lookup k, pops tm ks with
    | some g, some gs => some (g :: gs)
    | _, _ => none
def delT (tm : List (Int × Nat)) (n : Int) : List (Int × Nat) := tm.filter fun p => p.1 != n
/-- What goes with an object, one behind the other. -/
def remL (ob : Nat → Option TO) : Nat → List (Int × Nat) → List Nat → Nat → Option (List (Int × Nat) × List Nat)
  | 0, _, _, _ => none
  | f + 1, tm, out, i => match out[i]? with
    | none => some (tm, out)
    | some g => match ob g with
      | none => none
      | some o => match pops (delT tm o.name) o.kids with
        | none => none
        | some gs => remL ob f (delT tm o.name) (out ++ gs) (i + 1)
/-- The objects when one is taken out of its container. -/
def remO (t : Tab) (n : Int) (o : TO) : Nat → Option TO := match homeOf t o with
  | some (g, h) => upd t.ob g (some { h with kids := h.kids.filter (· != n) })
  | none => t.ob
theorem keys_none {l : List (Int × Nat)} {n : Int} (h : n ∉ l.map (·.1)) : l.lookup n = none := by
  induction l with
  | nil => rfl
  | cons p t ih =>
    obtain ⟨k, g⟩ := p
    rw [List.map_cons, List.mem_cons, not_or] at h
    rw [List.lookup_cons, show (n == k) = false by simpa using h.1]
    exact ih h.2
theorem keys_some {l : List (Int × Nat)} {n : Int} {g : Nat} (h : l.lookup n = some g) : (n, g) ∈ l := by
  induction l with
  | nil => cases h
  | cons p t ih =>
    obtain ⟨k, g'⟩ := p
    rw [List.lookup_cons] at h
    cases hk : n == k with
    | true => rw [hk] at h; simp at h hk; subst h hk; exact List.mem_cons_self
    | false => rw [hk] at h; exact List.mem_cons_of_mem _ (ih h)
theorem keys_mem {l : List (Int × Nat)} {n : Int} {g : Nat} (h : l.lookup n = some g) : n ∈ l.map (·.1) := List.mem_map.2 ⟨_, keys_some h, rfl⟩
theorem look_app {l : List (Int × Nat)} {n m : Int} {g : Nat} (h : n ∉ l.map (·.1)) : (l ++ [(n, g)]).lookup m = if m = n then some g else l.lookup m := by
  induction l with
  | nil =>
    rw [List.nil_append, List.lookup_cons]
    by_cases e : m = n
    · simp [e]
    · rw [show (m == n) = false by simpa using e, if_neg e]
  | cons p t ih =>
    obtain ⟨k, g'⟩ := p
    rw [List.map_cons, List.mem_cons, not_or] at h
    rw [List.cons_append, List.lookup_cons, List.lookup_cons]
    cases hk : m == k with
    | true =>
      have : m = k := by simpa using hk
      rw [if_neg fun e => h.1 (e.symm.trans this)]
    | false => exact ih h.2
theorem look_del {l : List (Int × Nat)} {n m : Int} : (delT l n).lookup m = if m = n then none else l.lookup m := by
  induction l with
  | nil => simp [delT]
  | cons p t ih =>
    obtain ⟨k, g⟩ := p
    unfold delT at ih ⊢
    rw [List.filter_cons]
    by_cases e : k = n
    · subst e
      rw [if_neg (by simp), ih, List.lookup_cons]
      by_cases e2 : m = k
      · rw [if_pos e2, if_pos e2]
      · rw [if_neg e2, if_neg e2, show (m == k) = false by simpa using e2]
    · rw [if_pos (by simpa using e), List.lookup_cons, List.lookup_cons]
      cases hk : m == k with
      | true =>
        have : m = k := by simpa using hk
        rw [if_neg fun h => e (this.symm.trans h)]
      | false => exact ih
theorem del_vals (tm : List (Int × Nat)) (n : Int) : delA (tm.map fun p => (p.1, ptrV p.2)) n = (delT tm n).map fun p => (p.1, ptrV p.2) := by
  unfold delA delT
  rw [List.filter_map]
  rfl
theorem put_vals {tm : List (Int × Nat)} {n : Int} (g : Nat) (h : tm.lookup n = none) : putA (tm.map fun p => (p.1, ptrV p.2)) n (ptrV g) = (tm ++ [(n, g)]).map fun p => (p.1, ptrV p.2) := by
  unfold putA
  have : n ∉ (tm.map fun p => (p.1, ptrV p.2)).map (·.1) := fun hm => by
    rw [List.map_map] at hm
    have h2 : n ∈ tm.map (·.1) := hm
    clear hm
    induction tm with
    | nil => cases h2
    | cons p t ih =>
      obtain ⟨k, g'⟩ := p
      rw [List.lookup_cons] at h
      cases hk : n == k with
      | true => rw [hk] at h; cases h
      | false =>
        rw [hk] at h
        rw [List.map_cons, List.mem_cons] at h2
        rcases h2 with e | h2
        · simp at hk; exact hk e
        · exact ih h h2
  rw [if_neg this, List.map_append]
  rfl
theorem del_keys (tm : List (Int × Nat)) (n : Int) : (delT tm n).map (·.1) = (tm.map (·.1)).filter (· != n) := by
  unfold delT
  rw [List.filter_map]
  rfl
/-- A root, and what is in it. -/
structure KInv (t : Tab) (g1 : Nat) (want : List Int) : Prop where
  root : t.tm.lookup 1 = some g1
  ro : t.ob g1 = some ⟨1, 1, 0, want, none⟩
  kid : ∀ n ∈ want, n ≠ 1 ∧ n ≠ 0 ∧ ∃ g, t.tm.lookup n = some g ∧ g ≠ g1 ∧ t.ob g = some ⟨n, 6, 1, [], none⟩
  keys : (t.tm.map (·.1)).Perm (1 :: want)
  nd : (1 :: want).Nodup
theorem KInv.none {t : Tab} {g1 : Nat} {want : List Int} (h : KInv t g1 want) {n : Int} (h1 : n ≠ 1) (hn : n ∉ want) : t.tm.lookup n = none := keys_none fun hm => by
  rcases List.mem_cons.1 (h.keys.mem_iff.1 hm) with e | e
  · exact h1 e
  · exact hn e
theorem KInv.len {t : Tab} {g1 : Nat} {want : List Int} (h : KInv t g1 want) : t.tm.length = want.length + 1 := by
  have := h.keys.length_eq
  simpa using this
theorem KInv.home {t : Tab} {g1 : Nat} {want : List Int} (h : KInv t g1 want) {o : TO} (ho : o.home = 1) : homeOf t o = some (g1, ⟨1, 1, 0, want, .none⟩) := by
  unfold homeOf
  rw [ho, h.root]
  simp [h.ro]
theorem KInv.add {t : Tab} {g1 : Nat} {want : List Int} (h : KInv t g1 want) {n : Int} (h0 : n ≠ 0) (h1 : n ≠ 1) (hn : n ∉ want) {g : Nat} (hg : t.ob g = .none) : addB t ⟨n, 6, 1, [], .none⟩ = true ∧ KInv (addT t g ⟨n, 6, 1, [], .none⟩) g1 (want ++ [n]) := by
  have hh := h.home (o := ⟨n, 6, 1, [], .none⟩) rfl
  have hl := h.none h1 hn
  have hgg : g ≠ g1 := fun e => by rw [e, h.ro] at hg; cases hg
  have hk : n ∉ t.tm.map (·.1) := fun hm => by
    rcases List.mem_cons.1 (h.keys.mem_iff.1 hm) with e | e
    · exact h1 e
    · exact hn e
  have eo : addO t ⟨n, 6, 1, [], .none⟩ = upd t.ob g1 (some ⟨1, 1, 0, want ++ [n], .none⟩) := by unfold addO; rw [hh]
  refine ⟨?_, ?_, ?_, fun m hm => ?_, ?_, ?_⟩
  · unfold addB mayAdd
    rw [hh, hl]
    simp [h0]
  · show (t.tm ++ [(n, g)]).lookup 1 = _
    rw [look_app hk, if_neg (fun e => h1 e.symm)]
    exact h.root
  · show upd (addO t _) g _ g1 = _
    rw [upd_ne (fun e => hgg e.symm), eo, upd_self]
  · rcases List.mem_append.1 hm with hm | hm
    · obtain ⟨a1, a2, q, a3, a4, a5⟩ := h.kid m hm
      refine ⟨a1, a2, q, ?_, a4, ?_⟩
      · show (t.tm ++ [(n, g)]).lookup m = _
        rw [look_app hk, if_neg (fun e : m = n => hn (e ▸ hm))]
        exact a3
      · show upd (addO t _) g _ q = _
        rw [upd_ne (fun e => by rw [e, hg] at a5; cases a5), eo, upd_ne a4]
        exact a5
    · rw [List.mem_singleton.1 hm]
      refine ⟨h1, h0, g, ?_, hgg, ?_⟩
      · show (t.tm ++ [(n, g)]).lookup n = _
        rw [look_app hk, if_pos rfl]
      · show upd (addO t _) g _ g = _
        rw [upd_self]
  · show ((t.tm ++ [(n, g)]).map (·.1)).Perm (1 :: (want ++ [n]))
    rw [List.map_append]
    exact h.keys.append_right [n]
  · show (([1] ++ want) ++ [n]).Nodup
    rw [List.nodup_append]
    refine ⟨h.nd, by simp, fun a ha b hb e => ?_⟩
    rw [List.mem_singleton.1 hb] at e
    subst e
    rcases List.mem_cons.1 ha with e | e
    · exact h1 e
    · exact hn e
theorem KInv.rem {t : Tab} {g1 : Nat} {want : List Int} (h : KInv t g1 want) {n : Int} (hn : n ∈ want) : ∃ g, t.tm.lookup n = some g ∧ g ≠ g1 ∧ t.ob g = some ⟨n, 6, 1, [], .none⟩ ∧ remL (remO t n ⟨n, 6, 1, [], .none⟩) 2 t.tm [g] 0 = some (delT t.tm n, [g]) ∧ KInv ⟨delT t.tm n, remO t n ⟨n, 6, 1, [], .none⟩⟩ g1 (want.filter (· != n)) := by
  obtain ⟨h1, h0, g, a3, a4, a5⟩ := h.kid n hn
  have hh := h.home (o := ⟨n, 6, 1, [], .none⟩) rfl
  have eo : remO t n ⟨n, 6, 1, [], .none⟩ = upd t.ob g1 (some ⟨1, 1, 0, want.filter (· != n), .none⟩) := by unfold remO; rw [hh]
  refine ⟨g, a3, a4, a5, ?_, ?_, ?_, fun m hm => ?_, ?_, ?_⟩
  · rw [eo]
    simp [remL, upd_ne a4, a5, pops]
  · show (delT t.tm n).lookup 1 = _
    rw [look_del, if_neg (fun e => h1 e.symm)]
    exact h.root
  · show remO t n _ g1 = _
    rw [eo, upd_self]
  · obtain ⟨hm, hmn⟩ := List.mem_filter.1 hm
    have hmn' : m ≠ n := by simpa using hmn
    obtain ⟨b1, b2, q, b3, b4, b5⟩ := h.kid m hm
    refine ⟨b1, b2, q, ?_, b4, ?_⟩
    · show (delT t.tm n).lookup m = _
      rw [look_del, if_neg hmn']
      exact b3
    · show remO t n _ q = _
      rw [eo, upd_ne b4]
      exact b5
  · show ((delT t.tm n).map (·.1)).Perm (1 :: want.filter (· != n))
    rw [del_keys]
    have := h.keys.filter (· != n)
    rwa [List.filter_cons, if_pos (by simpa using fun e : (1 : Int) = n => h1 e.symm)] at this
  · have := h.nd.filter (· != n)
    rwa [List.filter_cons, if_pos (by simpa using fun e : (1 : Int) = n => h1 e.symm)] at this

end Go.Proofs.Ytbeeiecbbmiojaa.Y

/- Ytops: the operations on tables -/
namespace Go.Proofs.Ytbeeiecbbmiojaa.Y
open Go.RowKit Go.ChangeShapes Go.WideShapes Go.ChangeAt Go.ChangeMaps Go.MapKept

def RunC (P : Program) (o : Oper) (x : Operand) (v r : Value) : Prop := ∀ (ev : Operand → Value) (w : World), (∀ v, ev (.const v) = v) → ev x = v → (execOp ev o).run P w = .ok (.value r) w
section
variable {d : Nat} {t : TypeId} {p : String} {af : Array Edge} {g : Option (Nat × Bool)} {x x2 : Operand}
theorem fa_48_1 : FieldRun Try.prog ⟨some d, .fieldAddr 48 x 1, t, p, af, g⟩ x 2 := fun ev w b off h1 => by go_simp
theorem fa_48_2 : FieldRun Try.prog ⟨some d, .fieldAddr 48 x 2, t, p, af, g⟩ x 3 := fun ev w b off h1 => by go_simp
theorem fa_48_4 : FieldRun Try.prog ⟨some d, .fieldAddr 48 x 4, t, p, af, g⟩ x 6 := fun ev w b off h1 => by go_simp
theorem fa_48_9 : FieldRun Try.prog ⟨some d, .fieldAddr 48 x 9, t, p, af, g⟩ x 15 := fun ev w b off h1 => by go_simp
theorem fa_48_13 : FieldRun Try.prog ⟨some d, .fieldAddr 48 x 13, t, p, af, g⟩ x 19 := fun ev w b off h1 => by go_simp
theorem fa_104_0 : FieldRun Try.prog ⟨some d, .fieldAddr 104 x 0, t, p, af, g⟩ x 0 := fun ev w b off h1 => by go_simp
theorem fa_66_4 : FieldRun Try.prog ⟨some d, .fieldAddr 66 x 4, t, p, af, g⟩ x 21 := fun ev w b off h1 => by go_simp
theorem ld_27 : LoadRun Try.prog ⟨some d, .load 27 x, t, p, af, g⟩ x := fun ev w b off v h1 h2 => by go_simp
theorem ld_29 : LoadRun Try.prog ⟨some d, .load 29 x, t, p, af, g⟩ x := fun ev w b off v h1 h2 => by go_simp
theorem ld_42 : LoadRun Try.prog ⟨some d, .load 42 x, t, p, af, g⟩ x := fun ev w b off v h1 h2 => by go_simp
theorem ld_102 : LoadRun Try.prog ⟨some d, .load 102 x, t, p, af, g⟩ x := fun ev w b off v h1 h2 => by go_simp
theorem b_eqP {r : Option Nat} : Run2 Try.prog ⟨some d, .binOp .eql 27 x x2 27, t, p, af, g⟩ x x2 (optP r) (.pointer none) (.bool r.isNone) := fun ev w h1 h2 => by cases r <;> (simp only [optP] at h1; go_simp)
theorem b_neP {r : Option Nat} : Run2 Try.prog ⟨some d, .binOp .neq 27 x x2 27, t, p, af, g⟩ x x2 (optP r) (.pointer none) (.bool r.isSome) := fun ev w h1 h2 => by cases r <;> (simp only [optP] at h1; go_simp)
theorem ln_49 : LenRun Try.prog ⟨some d, .call { callee := .builtin .len, args := #[x], argTypes := #[49] }, t, p, af, g⟩ x := fun ev w A len cap h1 => by go_simp
theorem bd_104 {m : Nat} : Run1 Try.prog ⟨some d, .build 104 #[(0, x)], t, p, af, g⟩ x (.map (some m)) (.agg #[.map (some m)]) := fun ev w h1 => by go_simp
theorem bd_48a {n k : Int} : DoneRun Try.prog ⟨some d, .build 48 #[(1, .const (.int .u64 n)), (2, .const (.int .i64 k))], t, p, af, g⟩ (.agg #[.slice none 0 0, .int .u64 0, .int .u64 n, .int .i64 k, .int .i64 0, .slice none 0 0, .int .u64 0, .int .u64 0, .int .i64 0, .int .i64 0, .int .i64 0, .int .i64 0, .int .u64 0, .int .u64 0, .int .u64 0, .slice none 0 0, .slice none 0 0, .int .u64 0, .slice none 0 0, nilP, .int .i64 0, .slice none 0 0, .int .u64 0, .int .u64 0, .slice none 0 0, .slice none 0 0, .slice none 0 0, .slice none 0 0, .slice none 0 0, .slice none 0 0, .slice none 0 0, .slice none 0 0, .int .i64 0, .int .i64 0, .int .i64 0, .slice none 0 0]) := fun ev w h => by go_simp
theorem bd_48b {n k h : Int} : RunC Try.prog ⟨some d, .build 48 #[(1, x), (2, .const (.int .i64 k)), (4, .const (.int .u64 h))], t, p, af, g⟩ x (.int .u64 n) (.agg #[.slice none 0 0, .int .u64 0, .int .u64 n, .int .i64 k, .int .i64 0, .slice none 0 0, .int .u64 h, .int .u64 0, .int .i64 0, .int .i64 0, .int .i64 0, .int .i64 0, .int .u64 0, .int .u64 0, .int .u64 0, .slice none 0 0, .slice none 0 0, .int .u64 0, .slice none 0 0, nilP, .int .i64 0, .slice none 0 0, .int .u64 0, .int .u64 0, .slice none 0 0, .slice none 0 0, .slice none 0 0, .slice none 0 0, .slice none 0 0, .slice none 0 0, .slice none 0 0, .slice none 0 0, .int .i64 0, .int .i64 0, .int .i64 0, .slice none 0 0]) := fun ev w hc h1 => by go_simp
end
section
variable {U : Prop} {ops : Array Oper} {Q : Exit → Act → World → Prop} {N d : Nat} {e : Env} {t : TypeId} {p : String} {af : Array Edge} {g : Option (Nat × Bool)} {c : Bool} {x x2 : Operand}
theorem p_run1 {op : Op} {v r : Value} (hx : OpdE e c x (.val v)) (hr : Run1 Try.prog ⟨some d, op, t, p, af, g⟩ x v r) (hs : ∀ s ∈ slotsOf x, s ∈ op.operands.toList.flatMap slotsOf) (hg : GdE ops e g c) : Pays U Try.prog ops Q N e ⟨some d, op, t, p, af, g⟩ (c, .val r) :=
  pVal hg fun e a w F hk => ⟨r, hr _ w (hx a w F (fun s h => hk s (hs s h)) e), rfl⟩
theorem p_runC {op : Op} {v r : Value} (hx : OpdE e c x (.val v)) (hr : RunC Try.prog ⟨some d, op, t, p, af, g⟩ x v r) (hs : ∀ s ∈ slotsOf x, s ∈ op.operands.toList.flatMap slotsOf) (hg : GdE ops e g c) : Pays U Try.prog ops Q N e ⟨some d, op, t, p, af, g⟩ (c, .val r) :=
  pVal hg fun e a w F hk => ⟨r, hr _ w (fun _ => rfl) (hx a w F (fun s h => hk s (hs s h)) e), rfl⟩
end
theorem Try.underlying102 : Try.prog.underlying 102 = some (.map 28 27) := by kernel_rfl
theorem Try.underlying28 : Try.prog.underlying 28 = some (.int .u64) := by kernel_rfl
theorem zero27 (w : World) : (zeroValue 27).run Try.prog w = .ok (.pointer none) w := by go_simp
theorem tab_look (t : Tab) (n : Int) : (t.vals.lookup n).getD (.pointer none) = optP (t.tm.lookup n) := by
  rw [t.look]
  cases t.tm.lookup n <;> rfl
theorem at_tab {w : World} {B gT gM : Nat} {t : Tab} {kv : Nat → Value} (h : TabAt w B gT gM t kv) {v : Value} (hv : v = ptrV gT) : (Sym.tab gT gM 104 t.vals).on w noF v := ⟨hv, h.tb, h.mp, fun _ h => h, fun _ h => h⟩
theorem at_obj {w : World} {g : Nat} {T : TypeId} {cs : Array Value} (h : Blk w g T cs) {v : Value} (hv : v = ptrV g) : (Sym.bp g T cs 0).on w noF v := ⟨hv, h, fun _ h => h⟩
theorem bx_104 {d : Nat} {t : TypeId} {p : String} {af : Array Edge} {g : Option (Nat × Bool)} {x : Operand} : BoxRun Try.prog ⟨some d, .box 104 x, t, p, af, g⟩ x 104 := fun ev w cs h1 => by go_simp
theorem bx_48 {d : Nat} {t : TypeId} {p : String} {af : Array Edge} {g : Option (Nat × Bool)} {x : Operand} : BoxRun Try.prog ⟨some d, .box 48 x, t, p, af, g⟩ x 48 := fun ev w cs h1 => by go_simp
theorem vals_len (t : Tab) : t.vals.length = t.tm.length := List.length_map _

end Go.Proofs.Ytbeeiecbbmiojaa.Y

/- Ytf: New, Len, Get -/
namespace Go.Proofs.Ytbeeiecbbmiojaa.Y
open Go.RowKit Go.ChangeShapes Go.WideShapes Go.ChangeAt Go.ChangeMaps Go.MapKept

set_option maxRecDepth 100000 in
/-- A table of nothing. -/
theorem cNew {w : World} : Calls Try.prog 14 #[] w fun e w' => ∃ v, e = .returned v ∧ ∃ gT gM, v = ptrV gT ∧ TabAt w' w.heap.size gT gM ⟨[], fun _ => none⟩ (fun _ => .slice none 0 0) ∧ Below w.heap.size w w' := by
  have z0 : OnlyB (fun _ => False) w w := OnlyB.refl _ _
  go_enter Try.func14, Try.ntmps14
  refine wp_seq ?_
  refine flowC mixed (st0 (U := False) (N := 4) (e := []) (F := noF) rfl rfl (fok_no _ _) True.intro) (by kernel_rfl) (by kernel_rfl) (cc rfl (p_assign g0 (oc _)) cn) fun a1 w1 b1 s1 => ?_
  have z1 := z0.below b1
  refine wp_seq ?_
  refine wp_region_lit ?_
  refine with_st (s1.keep sn) fun s1 => ?_
  show wpList _ _ _ (_ :: _) _ _
  refine mk_on (e2 := []) .u64 s1 rfl rfl (by decide) rfl vn fun gM a2 w2 hm hM b2 s2 => ?_
  have hM := Nat.le_trans z1.size hM
  have z2 := z1.below b2
  refine chainK 1 (cc rfl (p_run1 (od rfl id) bd_104 (fun s h => by simp [Op.operands, h]) g0) cn) (by kernel_rfl) s2 fun a3 w3 b3 s3 => ?_
  have z3 := z2.below b3
  have hm := hm.below b3
  show wpList _ _ _ (_ :: _) _ _
  refine alloc_on (u := 104) (z := #[.map (some gM)]) s3 (by simp [Region.wanted]) rfl (by decide) (bx_104 _ _ _ (s3.get 2 rfl)) vn fun gT a4 w4 hB hgT b4 s4 => ?_
  have hgT := Nat.le_trans z3.size hgT
  have z4 := z3.below b4
  have hm := hm.below b4
  refine chainK 1 (cc rfl (p_assign g0 (od rfl id)) cn) (by kernel_rfl) s4 fun a5 w5 b5 s5 => ?_
  have z5 := z4.below b5
  have hm := hm.below b5
  have hB := hB.below b5 hB.lt
  refine wpList_done ?_
  exact wp_ret (ret_o (fn := Try.f14) (R := fun v w' => ∃ gT gM, v = ptrV gT ∧ TabAt w' w.heap.size gT gM ⟨[], fun _ => none⟩ (fun _ => .slice none 0 0) ∧ Below w.heap.size w w') (v := ptrV gT) s5 0 rfl rfl ⟨gT, gM, rfl, ⟨hB, hm, (fun _ _ h => by cases h), (fun _ _ _ _ h => by cases h), hgT, hM, (fun _ _ h => by cases h)⟩, z5.to_below (fun _ _ h => h) (Nat.le_refl _)⟩)
set_option maxRecDepth 100000 in
/-- How many there are. -/
theorem cLen {w : World} {B gT gM : Nat} {t : Tab} {kv : Nat → Value} (hT : TabAt w B gT gM t kv) : Calls Try.prog 18 #[ptrV gT] w fun e w' => ∃ v, e = .returned v ∧ v = .int .i64 t.tm.length ∧ Below w.heap.size w w' := by
  have z0 : OnlyB (fun _ => False) w w := OnlyB.refl _ _
  go_enter Try.func18, Try.ntmps18
  refine wp_seq ?_
  refine flowC mixed (st0 (U := False) (N := 8) (e := [(0, true, .val (ptrV gT))]) (F := noF) rfl rfl (fok_no _ _) ⟨⟨rfl, rfl⟩, True.intro⟩) (by kernel_rfl) (by kernel_rfl) (cc rfl (p_assign g0 (oc _)) cn) fun a1 w1 b1 s1 => ?_
  have z1 := z0.below b1
  have hT := hT.below b1
  refine wp_seq ?_
  have s1 := s1.more 0 (y := .tab gT gM 104 t.vals) (at_tab hT (s1.get 0 rfl))
  refine flowT (s1.keep (sc 0 rfl (sc 2 rfl sn))) (by kernel_rfl) (cc rfl (p_move g0 (od rfl id))
      (cc rfl (p_nilT g0 (od rfl id))
      (cc rfl (p_faT fa_104_0 g0 (od rfl id))
      (cc rfl (p_ldT ld_102 g0 (od rfl id))
      (cc rfl (p_lenMO Try.underlying102 g0 (od rfl id))
      (cc rfl (p_assign g0 (od rfl id)) cn)))))) fun a2 w2 b2 s2 => ?_
  have z2 := z1.below b2
  have hT := hT.below b2
  rw [vals_len] at s2
  exact wp_ret (ret_o (fn := Try.f18) (R := fun v w' => v = .int .i64 t.tm.length ∧ Below w.heap.size w w') (v := .int .i64 t.tm.length) s2 2 rfl rfl ⟨rfl, z2.to_below (fun _ _ h => h) (Nat.le_refl _)⟩)
set_option maxRecDepth 100000 in
/-- The object of a name. -/
theorem cGet {w : World} {B gT gM : Nat} {t : Tab} {kv : Nat → Value} {n : Int} (hT : TabAt w B gT gM t kv) : Calls Try.prog 17 #[ptrV gT, .int .u64 n] w fun e w' => ∃ v, e = .returned v ∧ v = optP (t.tm.lookup n) ∧ Below w.heap.size w w' := by
  have z0 : OnlyB (fun _ => False) w w := OnlyB.refl _ _
  go_enter Try.func17, Try.ntmps17
  refine wp_seq ?_
  refine flowC mixed (st0 (U := False) (N := 11) (e := [(0, true, .val (ptrV gT)), (1, true, .val (.int .u64 n))]) (F := noF) rfl rfl (fok_no _ _) ⟨⟨rfl, rfl⟩, ⟨⟨rfl, rfl⟩, True.intro⟩⟩) (by kernel_rfl) (by kernel_rfl) (cc rfl (p_assign g0 (oc _)) cn) fun a1 w1 b1 s1 => ?_
  have z1 := z0.below b1
  have hT := hT.below b1
  refine wp_seq ?_
  have s1 := s1.more 0 (y := .tab gT gM 104 t.vals) (at_tab hT (s1.get 0 rfl))
  refine flowT (s1.keep (sc 0 rfl (sc 1 rfl (sc 4 rfl sn)))) (by kernel_rfl) (cc rfl (p_move g0 (od rfl id))
      (cc rfl (p_nilT g0 (od rfl id))
      (cc rfl (p_faT fa_104_0 g0 (od rfl id))
      (cc rfl (p_ldT ld_102 g0 (od rfl id))
      (cc rfl (p_move g0 (od rfl id))
      (cc rfl (p_lookO Try.underlying102 Try.underlying28 zero27 (tab_look _ _) g0 (od rfl id) (od rfl id))
      (cc rfl (p_assign g0 (od rfl id)) cn))))))) fun a2 w2 b2 s2 => ?_
  have z2 := z1.below b2
  have hT := hT.below b2
  exact wp_ret (ret_o (fn := Try.f17) (R := fun v w' => v = optP (t.tm.lookup n) ∧ Below w.heap.size w w') (v := optP (t.tm.lookup n)) s2 4 rfl rfl ⟨rfl, z2.to_below (fun _ _ h => h) (Nat.le_refl _)⟩)

end Go.Proofs.Ytbeeiecbbmiojaa.Y
