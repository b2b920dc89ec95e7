/- Ytm: a table of objects: what lies where -/
import Derived.Test.YtbeeiecbbmiojaaYout
namespace Go.Proofs.Ytbeeiecbbmiojaa.Y
open Go.RowKit Go.ChangeShapes Go.WideShapes Go.ChangeAt Go.ChangeMaps Go.MapKept

/-- An object: its name, kind, container, what is in it, and where its thread lies and on which core it runs. -/
structure TO where
  name : Int
  kind : Int
  home : Int
  kids : List Int
  th : Option (Nat × Int)
abbrev ptrV (g : Nat) : Value := .pointer (some ⟨g, 0, none⟩)
abbrev nilP : Value := .pointer none
abbrev kE (n : Int) : List Value := [.int .u64 n]
abbrev pE (g : Nat) : List Value := [ptrV g]
def thV (o : TO) : Value := match o.th with
  | some (g, _) => ptrV g
  | none => nilP
abbrev toC (o : TO) (kv : Value) : Array Value := #[.slice none 0 0, .int .u64 0, .int .u64 o.name, .int .i64 o.kind, .int .i64 0, .slice none 0 0, .int .u64 o.home, .int .u64 0, .int .i64 0, .int .i64 0, .int .i64 0, .int .i64 0, .int .u64 0, .int .u64 0, .int .u64 0, kv, .slice none 0 0, .int .u64 0, .slice none 0 0, thV o, .int .i64 0, .slice none 0 0, .int .u64 0, .int .u64 0, .slice none 0 0, .slice none 0 0, .slice none 0 0, .slice none 0 0, .slice none 0 0, .slice none 0 0, .slice none 0 0, .slice none 0 0, .int .i64 0, .int .i64 0, .int .i64 0, .slice none 0 0]
abbrev thC (on : Int) : Array Value := #[.int .u64 0, .int .u64 0, .int .u64 0, .int .u64 0, .int .u64 0, .int .u64 0, .int .u64 0, .int .u64 0, .int .u64 0, .int .u64 0, .int .u64 0, .int .u64 0, .int .u64 0, .int .u64 0, .int .u64 0, .int .u64 0, .int .u64 0, .int .i64 0, .slice none 0 0, .int .u64 0, .int .i64 0, .int .i64 on, .int .i64 0, .int .i64 0, .int .i64 0, .int .i64 0, .int .u64 0, .int .i64 0, .int .u64 0, .int .u64 0, .int .u64 0, .slice none 0 0, .int .i64 0, .slice none 0 0, .int .i64 0, .slice none 0 0, .slice none 0 0, .int .i64 0, .slice none 0 0]
structure ObjAt (w : World) (B g : Nat) (o : TO) (kv : Value) : Prop where
  blk : Blk w g 48 (toC o kv)
  row : w.ownsRow B 28 1 kv o.kids.length (o.kids.flatMap kE)
  th : ∀ x on, o.th = some (x, on) → Blk w x 66 (thC on) ∧ B ≤ x
/-- A table: which block each name tells, and which object lies in a block. -/
structure Tab where
  tm : List (Int × Nat)
  ob : Nat → Option TO
def Tab.vals (t : Tab) : List (Int × Value) := t.tm.map fun p => (p.1, ptrV p.2)
def upd {α : Type} (f : Nat → α) (g : Nat) (x : α) : Nat → α := fun y => if y = g then x else f y
theorem upd_self {α : Type} {f : Nat → α} {g : Nat} {x : α} : upd f g x g = x := if_pos rfl
theorem upd_ne {α : Type} {f : Nat → α} {g h : Nat} {x : α} (hn : h ≠ g) : upd f g x h = f h := if_neg hn
theorem vals_look : ∀ (l : List (Int × Nat)) (n : Int), (l.map fun p => (p.1, ptrV p.2)).lookup n = (l.lookup n).map ptrV
  | [], _ => rfl
  | (k, g) :: t, n => by
    rw [List.map_cons, List.lookup_cons, List.lookup_cons]
    cases n == k with
    | true => rfl
    | false => exact vals_look t n
theorem Tab.look (t : Tab) (n : Int) : t.vals.lookup n = (t.tm.lookup n).map ptrV := vals_look _ _
theorem Tab.look_none {t : Tab} {n : Int} (h : t.tm.lookup n = none) : (t.vals.lookup n).getD nilP = nilP := by rw [t.look, h]; rfl
theorem Tab.look_some {t : Tab} {n : Int} {g : Nat} (h : t.tm.lookup n = some g) : (t.vals.lookup n).getD nilP = ptrV g := by rw [t.look, h]; rfl
/-- The table's blocks. -/
def TabB (gT gM : Nat) (t : Tab) (kv : Nat → Value) (i : Nat) : Prop := i = gT ∨ i = gM ∨ ∃ g o, t.ob g = some o ∧ (i = g ∨ (kv g).ownBlock = some i ∨ ∃ on, o.th = some (i, on))
structure TabAt (w : World) (B gT gM : Nat) (t : Tab) (kv : Nat → Value) : Prop where
  tb : Blk w gT 104 #[.map (some gM)]
  mp : MapAt w gM .u64 t.vals
  ob : ∀ g o, t.ob g = some o → ObjAt w B g o (kv g)
  kd : ∀ g h o q, t.ob g = some o → t.ob h = some q → g ≠ h → (kv g).ownBlock = none ∨ (kv g).ownBlock ≠ (kv h).ownBlock
  bT : B ≤ gT
  bM : B ≤ gM
  bo : ∀ g o, t.ob g = some o → B ≤ g
/-- Each name tells an object of that name. -/
def Tab.Ok (t : Tab) : Prop := ∀ n g, t.tm.lookup n = some g → ∃ o, t.ob g = some o ∧ o.name = n
theorem blk_ne {w : World} {g h : Nat} {t u : TypeId} {cs ds : Array Value} (h1 : Blk w g t cs) (h2 : Blk w h u ds) (hn : t ≠ u) : g ≠ h := fun e => by
  subst e
  unfold Blk at h1 h2
  rw [h1] at h2
  injection h2 with h2
  injection h2 with _ h2
  exact hn h2
theorem map_ne {w : World} {g b : Nat} {t : TypeId} {cs : Array Value} {k : IntKind} {l : List (Int × Value)} (h1 : Blk w g t cs) (h2 : MapAt w b k l) : g ≠ b := fun e => by
  subst e
  obtain ⟨es, c, h3, _⟩ := h2
  unfold Blk at h1
  rw [h1] at h3
  cases h3
theorem row_ne {w : World} {g B E k n : Nat} {t : TypeId} {cs : Array Value} {v : Value} {xs : List Value} (h1 : Blk w g t cs) (h2 : w.ownsRow B E k v n xs) (hn : t ≠ E) : v.ownBlock ≠ some g := Ne.symm (own_ne h2 h1 (Ne.symm hn))
theorem row_map {w : World} {b B E k n : Nat} {v : Value} {xs : List Value} {kk : IntKind} {l : List (Int × Value)} (h1 : MapAt w b kk l) (h2 : w.ownsRow B E k v n xs) : v.ownBlock ≠ some b := fun e => by
  obtain ⟨_, cs, hb⟩ := own_row_blk h2 e
  exact map_ne hb h1 rfl
theorem own_grownR {w w' : World} {B E k n : Nat} {v : Value} {xs : List Value} {r : Option Nat} (h : w.ownsRow B E k v n xs) (hg : w.grownBy w' r) (hn : v.ownBlock = none ∨ v.ownBlock ≠ r) : w'.ownsRow B E k v n xs := h.kept hg hn
section
variable {w w' : World} {B gT gM : Nat} {t : Tab} {kv : Nat → Value}
theorem TabAt.lt (h : TabAt w B gT gM t kv) {i : Nat} (hi : TabB gT gM t kv i) : B ≤ i ∧ i < w.heap.size := by
  rcases hi with rfl | rfl | ⟨g, o, h1, rfl | h2 | ⟨on, h2⟩⟩
  · exact ⟨h.bT, h.tb.lt⟩
  · exact ⟨h.bM, h.mp.lt⟩
  · exact ⟨h.bo _ _ h1, (h.ob _ _ h1).blk.lt⟩
  · obtain ⟨_, cs, hb⟩ := own_row_blk (h.ob _ _ h1).row h2
    exact ⟨own_base (h.ob _ _ h1).row h2, hb.lt⟩
  · exact ⟨((h.ob _ _ h1).th _ _ h2).2, ((h.ob _ _ h1).th _ _ h2).1.lt⟩
theorem TabAt.only {S : Nat → Prop} (h : TabAt w B gT gM t kv) (ho : OnlyB S w w') (hn : ∀ i, TabB gT gM t kv i → ¬ S i) : TabAt w' B gT gM t kv :=
  ⟨blk_only h.tb ho (hn _ (.inl rfl)), h.mp.only ho (hn _ (.inr (.inl rfl))), fun g o h1 => ⟨blk_only (h.ob g o h1).blk ho (hn _ (.inr (.inr ⟨g, o, h1, .inl rfl⟩))), own_only (h.ob g o h1).row ho fun _ hx => hn _ (.inr (.inr ⟨g, o, h1, .inr (.inl hx)⟩)), fun x on hx => ⟨blk_only ((h.ob g o h1).th x on hx).1 ho (hn _ (.inr (.inr ⟨g, o, h1, .inr (.inr ⟨on, hx⟩)⟩))), ((h.ob g o h1).th x on hx).2⟩⟩, h.kd, h.bT, h.bM, h.bo⟩
theorem TabAt.below (h : TabAt w B gT gM t kv) (hb : Below w.heap.size w w') : TabAt w' B gT gM t kv := h.only (S := fun _ => False) (.of_below hb) fun _ _ h => h
theorem TabAt.grown {r : Option Nat} (h : TabAt w B gT gM t kv) (hg : w.grownBy w' r) (hn : ∀ i, TabB gT gM t kv i → r ≠ some i) : TabAt w' B gT gM t kv :=
  h.only (S := fun i => r = some i) ((OnlyB.refl _ w).grown hg fun _ _ e => e) fun i hi e => hn i hi e
/-- The map is written. -/
theorem TabAt.put {tm' : List (Int × Nat)} (h : TabAt w B gT gM t kv) (hm : MapAt w' gM .u64 (tm'.map fun p => (p.1, ptrV p.2))) (hg : w.grownBy w' (some gM)) : TabAt w' B gT gM ⟨tm', t.ob⟩ kv :=
  ⟨h.tb.grown hg (fun e => map_ne h.tb h.mp (by injection e)), hm, fun g o h1 => ⟨(h.ob g o h1).blk.grown hg (fun e => map_ne (h.ob g o h1).blk h.mp (by injection e)), own_grownR (h.ob g o h1).row hg (.inr (row_map h.mp (h.ob g o h1).row)), fun x on hx => ⟨((h.ob g o h1).th x on hx).1.grown hg (fun e => map_ne ((h.ob g o h1).th x on hx).1 h.mp (by injection e)), ((h.ob g o h1).th x on hx).2⟩⟩, h.kd, h.bT, h.bM, h.bo⟩
/-- An object comes to lie beside the others. -/
theorem TabAt.more {g : Nat} {o : TO} {v : Value} (h : TabAt w B gT gM t kv) (ho : ObjAt w B g o v) (hg : B ≤ g) (hn : t.ob g = none) (hv : v.ownBlock = none) : TabAt w B gT gM ⟨t.tm, upd t.ob g (some o)⟩ (upd kv g v) := by
  refine ⟨h.tb, h.mp, fun x q hx => ?_, fun x y q r hx hy hxy => ?_, h.bT, h.bM, fun x q hx => ?_⟩
  · replace hx : upd t.ob g (some o) x = some q := hx
    by_cases e : x = g
    · subst e
      rw [upd_self] at hx ⊢
      injection hx with hx
      exact hx ▸ ho
    · rw [upd_ne e] at hx ⊢
      exact h.ob x q hx
  · replace hx : upd t.ob g (some o) x = some q := hx
    replace hy : upd t.ob g (some o) y = some r := hy
    by_cases e : x = g
    · subst e
      rw [upd_self]
      exact .inl hv
    · rw [upd_ne e] at hx ⊢
      by_cases e2 : y = g
      · subst e2
        rw [upd_self, hv]
        cases (kv x).ownBlock with
        | none => exact .inl rfl
        | some _ => exact .inr fun h => by cases h
      · rw [upd_ne e2] at hy ⊢
        exact h.kd x y q r hx hy hxy
  · replace hx : upd t.ob g (some o) x = some q := hx
    by_cases e : x = g
    · exact e ▸ hg
    · rw [upd_ne e] at hx
      exact h.bo x q hx
/-- An object's kids are laid anew: first the row, then the object. -/
theorem TabAt.kids {w2 : World} {g : Nat} {o : TO} {ks : List Int} {v : Value} (h : TabAt w B gT gM t kv) (hg : t.ob g = some o) (hr : w.grownBy w' (kv g).ownBlock ∨ Below w.heap.size w w') (hv : w'.ownsRow B 28 1 v ks.length (ks.flatMap kE)) (hb : v.ownBlock = (kv g).ownBlock ∨ ∀ x, v.ownBlock = some x → w.heap.size ≤ x)
    (hB : Blk w2 g 48 (toC { o with kids := ks } v)) (hs : w'.grownBy w2 (some g)) : TabAt w2 B gT gM ⟨t.tm, upd t.ob g (some { o with kids := ks })⟩ (upd kv g v) := by
  have hO := h.ob g o hg
  have hr' : w.grownBy w' (kv g).ownBlock := hr.elim id fun h => only_of_below h _
  have far : ∀ {x : Nat} {u : TypeId} {cs : Array Value}, Blk w x u cs → u ≠ 28 → x ≠ g → Blk w2 x u cs := fun {x u cs} hx hu hxg => (hx.grown hr' (Ne.symm (row_ne hx hO.row hu))).grown hs (fun e => hxg (by injection e))
  have hgT : gT ≠ g := blk_ne h.tb hO.blk (by decide)
  have hne : ∀ x, v.ownBlock ≠ (kv g).ownBlock → v.ownBlock = some x → w.heap.size ≤ x := fun x hn hx => hb.elim (fun e => absurd e hn) fun h => h x hx
  have same : ∀ x q, t.ob x = some q → x ≠ g → ObjAt w2 B x q (kv x) := fun x q hx hxg => by
    have hX := h.ob x q hx
    refine ⟨far hX.blk (by decide) hxg, own_grownR (own_grownR hX.row hr' (h.kd x g q o hx hg hxg)) hs (.inr ?_), fun y on hy => ⟨far (hX.th y on hy).1 (by decide) (blk_ne (hX.th y on hy).1 hO.blk (by decide)), (hX.th y on hy).2⟩⟩
    exact row_ne hO.blk hX.row (by decide)
  refine ⟨far h.tb (by decide) hgT, ?_, fun x q hx => ?_, fun x y q r hx hy hxy => ?_, h.bT, h.bM, fun x q hx => ?_⟩
  · exact (h.mp.grown hr' (row_map h.mp hO.row)).grown hs (fun e => map_ne hO.blk h.mp (by injection e))
  · replace hx : upd t.ob g (some { o with kids := ks }) x = some q := hx
    by_cases e : x = g
    · subst e
      rw [upd_self] at hx ⊢
      injection hx with hx
      subst hx
      refine ⟨hB, own_grownR hv hs (.inr ?_), fun y on hy => ⟨far (hO.th y on hy).1 (by decide) (blk_ne (hO.th y on hy).1 hO.blk (by decide)), (hO.th y on hy).2⟩⟩
      exact row_ne (hO.blk.grown hr' (Ne.symm (row_ne hO.blk hO.row (by decide)))) hv (by decide)
    · rw [upd_ne e] at hx ⊢
      exact same x q hx e
  · have sep : ∀ z r, t.ob z = some r → z ≠ g → v.ownBlock = none ∨ v.ownBlock ≠ (kv z).ownBlock := fun z r hz hzg => by
      rcases hb with hb | hb
      · rw [hb]; exact h.kd g z o r hg hz (fun e => hzg e.symm)
      · cases hv' : v.ownBlock with
        | none => exact .inl rfl
        | some i =>
          refine .inr fun e => ?_
          obtain ⟨_, cs, hb2⟩ := own_row_blk (h.ob z r hz).row e.symm
          exact absurd hb2.lt (Nat.not_lt.2 (hb i hv'))
    replace hx : upd t.ob g (some { o with kids := ks }) x = some q := hx
    replace hy : upd t.ob g (some { o with kids := ks }) y = some r := hy
    by_cases e : x = g
    · subst e
      have hyx : y ≠ x := fun e => hxy e.symm
      rw [upd_ne hyx] at hy ⊢
      rw [upd_self]
      exact sep y r hy hyx
    · rw [upd_ne e] at hx ⊢
      by_cases e2 : y = g
      · subst e2
        rw [upd_self]
        rcases sep x q hx e with hs | hs
        · cases hk : (kv x).ownBlock with
          | none => exact .inl rfl
          | some _ => rw [hs]; exact .inr fun h => by cases h
        · exact .inr fun e => hs e.symm
      · rw [upd_ne e2] at hy ⊢
        exact h.kd x y q r hx hy hxy
  · replace hx : upd t.ob g (some { o with kids := ks }) x = some q := hx
    by_cases e : x = g
    · exact e ▸ h.bo g o hg
    · rw [upd_ne e] at hx
      exact h.bo x q hx
end

end Go.Proofs.Ytbeeiecbbmiojaa.Y
