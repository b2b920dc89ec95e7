/- Ytw: what the law on threads needs -/
import Derived.Test.YtbeeiecbbmiojaaYtv
namespace Go.Proofs.Ytbeeiecbbmiojaa.Y
open Go.RowKit Go.ChangeShapes Go.WideShapes Go.ChangeAt Go.ChangeMaps Go.MapKept

/-- The names 2, 3, .. -/
def nmL (i : Nat) : List Int := (List.range i).map fun (j : Nat) => (j : Int) + 2
theorem nmL_succ (i : Nat) : nmL (i + 1) = nmL i ++ [(i : Int) + 2] := by unfold nmL; rw [List.range_succ, List.map_append]; rfl
theorem nmL_len (i : Nat) : (nmL i).length = i := by unfold nmL; simp
theorem nmL_at {i j : Nat} (h : j < i) : (nmL i)[j]? = some ((j : Int) + 2) := by unfold nmL; simp [h]
theorem nmL_mem {i : Nat} {n : Int} (h : n ∈ nmL i) : ∃ j, j < i ∧ n = (j : Int) + 2 := by
  unfold nmL at h
  obtain ⟨j, h1, h2⟩ := List.mem_map.1 h
  exact ⟨j, List.mem_range.1 h1, h2.symm⟩
/-- An object that comes of the number x, the j-th. -/
def KidIs (x : Int) (j : Nat) (o : TO) : Prop := o.name = (j : Int) + 2 ∧ o.home = 1 ∧ o.kids = [] ∧ ((x % 2 = 1 ∧ o.kind = 3 ∧ ∃ y, o.th = some (y, x / 2 % 4)) ∨ (x % 2 ≠ 1 ∧ o.kind = 2 ∧ o.th = none))
structure TInv (t : Tab) (gr : Nat) (l : List Int) (i : Nat) : Prop where
  root : t.tm.lookup 1 = some gr
  ro : t.ob gr = some ⟨1, 1, 0, nmL i, none⟩
  kid : ∀ j : Nat, j < i → ∃ g o, t.tm.lookup ((j : Int) + 2) = some g ∧ g ≠ gr ∧ t.ob g = some o ∧ KidIs (l.getD j 0) j o
  keys : t.tm.map (·.1) = 1 :: nmL i
theorem TInv.none {t : Tab} {gr i : Nat} {l : List Int} (h : TInv t gr l i) {n : Int} (h1 : n ≠ 1) (hn : ∀ j : Nat, j < i → n ≠ (j : Int) + 2) : t.tm.lookup n = none := keys_none fun hm => by
  rw [h.keys] at hm
  rcases List.mem_cons.1 hm with e | e
  · exact h1 e
  · obtain ⟨j, hj, e⟩ := nmL_mem e
    exact hn j hj e
theorem TInv.add {t : Tab} {gr i g : Nat} {l : List Int} {x : Int} {o : TO} (h : TInv t gr l i) (hx : l[i]? = some x) (ho : KidIs x i o) (hg : t.ob g = .none) : addB t o = true ∧ TInv (addT t g o) gr l (i + 1) := by
  obtain ⟨h1, h2, h3, h4⟩ := ho
  have hh : homeOf t o = some (gr, ⟨1, 1, 0, nmL i, .none⟩) := by
    unfold homeOf
    rw [h2, h.root]
    simp [h.ro]
  have hl : t.tm.lookup o.name = .none := by
    rw [h1]
    exact h.none (by omega) (fun j hj e => by omega)
  have hgg : g ≠ gr := fun e => by rw [e, h.ro] at hg; cases hg
  have hk : o.name ∉ t.tm.map (·.1) := fun hm => by
    rw [h.keys, h1] at hm
    rcases List.mem_cons.1 hm with e | e
    · omega
    · obtain ⟨j, hj, e⟩ := nmL_mem e
      omega
  have eo : addO t o = upd t.ob gr (some ⟨1, 1, 0, nmL i ++ [o.name], .none⟩) := by unfold addO; rw [hh]
  refine ⟨?_, ?_, ?_, fun j hj => ?_, ?_⟩
  · unfold addB mayAdd
    rw [hh, hl]
    have : o.name ≠ 0 := by rw [h1]; omega
    simp [this]
  · show (t.tm ++ [(o.name, g)]).lookup 1 = _
    rw [look_app hk, if_neg (fun e => by rw [h1] at e; omega)]
    exact h.root
  · show upd (addO t _) g _ gr = _
    rw [upd_ne (fun e => hgg e.symm), eo, upd_self, h1, ← nmL_succ]
  · by_cases hji : j < i
    · obtain ⟨q, p, a3, a4, a5, a6⟩ := h.kid j hji
      refine ⟨q, p, ?_, a4, ?_, a6⟩
      · show (t.tm ++ [(o.name, g)]).lookup _ = _
        rw [look_app hk, if_neg (fun e => by rw [h1] at e; omega)]
        exact a3
      · show upd (addO t _) g _ q = _
        rw [upd_ne (fun e => by rw [e, hg] at a5; cases a5), eo, upd_ne a4]
        exact a5
    · obtain rfl : j = i := by omega
      refine ⟨g, o, ?_, hgg, ?_, ?_⟩
      · show (t.tm ++ [(o.name, g)]).lookup _ = _
        rw [look_app hk, if_pos h1.symm]
      · show upd (addO t _) g _ g = _
        rw [upd_self]
      · rw [show l.getD j 0 = x by rw [List.getD_eq_getElem?_getD, hx]; rfl]
        exact ⟨h1, h2, h3, h4⟩
  · show (t.tm ++ [(o.name, g)]).map (·.1) = _
    rw [List.map_append, h.keys, nmL_succ, ← h1]
    rfl
theorem TInv.ok {t : Tab} {gr i : Nat} {l : List Int} (h : TInv t gr l i) : t.Ok := fun n g hn => by
  have hm := keys_mem hn
  rw [h.keys] at hm
  rcases List.mem_cons.1 hm with e | e
  · subst e
    rw [h.root] at hn
    injection hn with hn
    subst hn
    exact ⟨_, h.ro, rfl⟩
  · obtain ⟨j, hj, rfl⟩ := nmL_mem e
    obtain ⟨q, p, a3, a4, a5, a6⟩ := h.kid j hj
    rw [a3] at hn
    injection hn with hn
    subst hn
    exact ⟨_, a5, a6.1⟩
theorem tinv_T1 (gr : Nat) (l : List Int) : TInv (T1 gr) gr l 0 := ⟨by simp [List.lookup], upd_self (f := fun _ => none), (fun _ h => absurd h (Nat.not_lt_zero _)), by simp [nmL]⟩
theorem pops_all {tm : List (Int × Nat)} : ∀ {ks : List Int}, (∀ k ∈ ks, ∃ g, tm.lookup k = some g) → ∃ gs, pops tm ks = some gs
  | [], _ => ⟨[], rfl⟩
  | k :: ks, h => by
    obtain ⟨g, hg⟩ := h k List.mem_cons_self
    obtain ⟨gs, hgs⟩ := pops_all fun k hk => h k (List.mem_cons_of_mem _ hk)
    exact ⟨g :: gs, by unfold pops; rw [hg, hgs]⟩
theorem TInv.pops {t : Tab} {gr i : Nat} {l : List Int} (h : TInv t gr l i) : ∃ gs, pops t.tm (nmL i) = some gs ∧ gs.length = i ∧ ∀ j, j < i → ∃ g o, gs[j]? = some g ∧ t.ob g = some o ∧ KidIs (l.getD j 0) j o := by
  obtain ⟨gs, hg⟩ := pops_all (tm := t.tm) (ks := nmL i) fun k hk => by
    obtain ⟨j, hj, rfl⟩ := nmL_mem hk
    obtain ⟨q, _, a3, _⟩ := h.kid j hj
    exact ⟨q, a3⟩
  have hp := pops_at hg
  refine ⟨gs, hg, by rw [hp.1, nmL_len], fun j hj => ?_⟩
  obtain ⟨q, p, a3, a4, a5, a6⟩ := h.kid j hj
  obtain ⟨g, b1, b2⟩ := hp.2 j _ (nmL_at hj)
  rw [a3] at b1
  injection b1 with b1
  subst b1
  exact ⟨q, p, b2, a5, a6⟩
/-- The names that are to run on a core. -/
def wantL (l : List Int) (i : Nat) (k : Nat) : List Int := ((List.range i).filter fun j => l.getD j 0 % 2 == 1 && l.getD j 0 / 2 % 4 == (k : Int)).map fun (j : Nat) => (j : Int) + 2
theorem wantL_succ {l : List Int} {i : Nat} {x : Int} (h : l[i]? = some x) (k : Nat) : wantL l (i + 1) k = wantL l i k ++ (if x % 2 == 1 && x / 2 % 4 == (k : Int) then [(i : Int) + 2] else []) := by
  unfold wantL
  rw [List.range_succ, List.filter_append, List.map_append, List.filter_cons, show l.getD i 0 = x by rw [List.getD_eq_getElem?_getD, h]; rfl]
  split <;> simp_all
theorem wantL_len (l : List Int) (i k : Nat) : (wantL l i k).length ≤ i := by
  unfold wantL
  rw [List.length_map]
  have := List.length_filter_le (fun j => l.getD j 0 % 2 == 1 && l.getD j 0 / 2 % 4 == (k : Int)) (List.range i)
  rwa [List.length_range] at this
def nameOf (t : Tab) (g : Nat) : Int := match t.ob g with
  | some o => o.name
  | none => 0
/-- Threads told are those that are wanted. -/
theorem thr_want {t : Tab} {l : List Int} {n k : Nat} {gs : List Nat} (hl : gs.length = n) (h : ∀ j, j < n → ∃ g o, gs[j]? = some g ∧ t.ob g = some o ∧ KidIs (l.getD j 0) j o) : (gs.filter (isT t (k : Int))).map (nameOf t) = wantL l n k := by
  have key : ∀ i, i ≤ n → ((gs.take i).filter (isT t (k : Int))).map (nameOf t) = wantL l i k := fun i => by
    induction i with
    | zero => intro _; rfl
    | succ i ih =>
      intro hi
      obtain ⟨g, o, h1, h2, h3, h4, h5, h6⟩ := h i (by omega)
      have hx : isT t (k : Int) g = (l.getD i 0 % 2 == 1 && l.getD i 0 / 2 % 4 == (k : Int)) := by
        rcases h6 with ⟨a, b, y, c⟩ | ⟨a, b, c⟩
        · rw [isT_th h2 b c, a]; simp
        · rw [isT_no h2 (by omega), show (l.getD i 0 % 2 == 1) = false by simpa using a]; rfl
      rw [take_filterN h1, List.map_append, ih (by omega)]
      unfold wantL
      rw [List.range_succ, List.filter_append, List.map_append]
      congr 1
      rw [List.filter_cons, hx]
      have hn : nameOf t g = (i : Int) + 2 := by unfold nameOf; rw [h2]; exact h3
      split <;> simp_all
  have := key n (Nat.le_refl _)
  rwa [List.take_of_length_le (by omega)] at this
/-- Four rows in an array of one's own, apart from what S tells. -/
structure WAt (w : World) (B gA : Nat) (S : Nat → Prop) (U : Nat → Value) (W : Nat → List Int) : Prop where
  arr : Blk w gA 54 #[U 0, U 1, U 2, U 3]
  row : ∀ k, k < 4 → w.ownsRow B 28 1 (U k) (W k).length ((W k).flatMap kE)
  out : ∀ k, k < 4 → ∀ j, S j → (U k).ownBlock ≠ some j
  dis : ∀ k h, k < 4 → h < 4 → k ≠ h → (U k).ownBlock = none ∨ (U k).ownBlock ≠ (U h).ownBlock
  base : B ≤ gA
theorem WAt.below {w w' : World} {B gA : Nat} {S : Nat → Prop} {U : Nat → Value} {W : Nat → List Int} (h : WAt w B gA S U W) (hb : Below w.heap.size w w') : WAt w' B gA S U W := ⟨h.arr.below hb h.arr.lt, fun k hk => own_below (h.row k hk) hb, h.out, h.dis, h.base⟩
theorem WAt.only {w w' : World} {B gA : Nat} {S S' S2 : Nat → Prop} {U : Nat → Value} {W : Nat → List Int} (h : WAt w B gA S U W) (hz : OnlyB S' w w') (hA : ¬ S' gA) (hS : ∀ k, k < 4 → ∀ g, (U k).ownBlock = some g → ¬ S' g) (h2 : ∀ k, k < 4 → ∀ j, S2 j → (U k).ownBlock ≠ some j) : WAt w' B gA S2 U W := ⟨blk_only h.arr hz hA, fun k hk => own_only (h.row k hk) hz (hS k hk), h2, h.dis, h.base⟩
theorem upd_arr {U : Nat → Value} {k : Nat} (hk : k < 4) (v : Value) : over #[U 0, U 1, U 2, U 3] k [v] = #[upd U k v 0, upd U k v 1, upd U k v 2, upd U k v 3] := by
  match k, hk with
  | 0, _ => rfl
  | 1, _ => rfl
  | 2, _ => rfl
  | 3, _ => rfl
theorem arr_at {U : Nat → Value} {k : Nat} (hk : k < 4) : (#[U 0, U 1, U 2, U 3] : Array Value)[k]? = some (U k) := by
  match k, hk with
  | 0, _ => rfl
  | 1, _ => rfl
  | 2, _ => rfl
  | 3, _ => rfl
/-- One of them grows, and is stored anew. -/
theorem WAt.app {w w1 w2 : World} {B gA k : Nat} {S : Nat → Prop} {U : Nat → Value} {W W2 : Nat → List Int} {v : Value} (h : WAt w B gA S U W) (hk : k < 4) (hS : ∀ j, S j → j < w.heap.size) (hg : w.grownBy w1 (U k).ownBlock) (hv : w1.ownsRow B 28 1 v (W2 k).length ((W2 k).flatMap kE)) (hb : v.ownBlock = (U k).ownBlock ∨ ∀ x, v.ownBlock = some x → w.heap.size ≤ x)
    (hW : ∀ h, h ≠ k → W2 h = W h) (ha : Blk w2 gA 54 (over #[U 0, U 1, U 2, U 3] k [v])) (hs : w1.grownBy w2 (some gA)) : WAt w2 B gA S (upd U k v) W2 := by
  have sep : ∀ j, j < 4 → j ≠ k → v.ownBlock = none ∨ v.ownBlock ≠ (U j).ownBlock := fun j hj hjk => by
    rcases hb with hb | hb
    · rw [hb]; exact h.dis k j hk hj (fun e => hjk e.symm)
    · cases hv' : v.ownBlock with
      | none => exact .inl rfl
      | some i => exact .inr fun e => absurd (own_lt (h.row j hj) e.symm) (Nat.not_lt.2 (hb i hv'))
  refine ⟨by rw [← upd_arr hk]; exact ha, fun j hj => ?_, fun j hj i hi => ?_, fun j i hj hi hji => ?_, h.base⟩
  · by_cases e : j = k
    · subst e
      rw [upd_self]
      exact own_grownR hv hs (.inr (row_ne (h.arr.grown hg (Ne.symm (row_ne h.arr (h.row j hj) (by decide)))) hv (by decide)))
    · rw [upd_ne e, hW j e]
      exact own_grownR (own_grownR (h.row j hj) hg (h.dis j k hj hk e)) hs (.inr (row_ne h.arr (h.row j hj) (by decide)))
  · by_cases e : j = k
    · subst e
      rw [upd_self]
      rcases hb with hb | hb
      · rw [hb]; exact h.out j hj i hi
      · exact fun e => absurd (hS i hi) (Nat.not_lt.2 (hb i e))
    · rw [upd_ne e]; exact h.out j hj i hi
  · by_cases e : j = k
    · subst e
      rw [upd_self, upd_ne (fun e => hji e.symm)]
      exact sep i hi (fun e => hji e.symm)
    · rw [upd_ne e]
      by_cases e2 : i = k
      · subst e2
        rw [upd_self]
        rcases sep j hj e with hs | hs
        · cases hu : (U j).ownBlock with
          | none => exact .inl rfl
          | some _ => rw [hs]; exact .inr fun h => by cases h
        · exact .inr fun e => hs e.symm
      · rw [upd_ne e2]; exact h.dis j i hj hi hji
theorem tab_54 {w : World} {B gT gM gA : Nat} {t : Tab} {kv : Nat → Value} {cs : Array Value} (h : TabAt w B gT gM t kv) (hA : Blk w gA 54 cs) : ¬ TabB gT gM t kv gA := fun hi => by
  rcases hi with rfl | rfl | ⟨g, o, h1, rfl | h2 | ⟨on, h2⟩⟩
  · exact blk_ne h.tb hA (by decide) rfl
  · exact map_ne hA h.mp rfl
  · exact blk_ne (h.ob _ _ h1).blk hA (by decide) rfl
  · exact row_ne hA (h.ob _ _ h1).row (by decide) h2
  · exact blk_ne ((h.ob _ _ h1).th _ _ h2).1 hA (by decide) rfl
theorem away2 {w : World} {gM g h B n : Nat} {l : List (Int × Value)} {v : Value} {xs : List Value} {cs ds : Array Value} (hm : MapAt w gM .u64 l) (hr : w.ownsRow B 28 1 v n xs) (h1 : Blk w h 54 cs) (h2 : Blk w g 48 ds) : ∃ g0, g0 < w.heap.size ∧ h ≠ g0 ∧ g ≠ g0 ∧ ∀ x, v.ownBlock = some x → x = g0 := by
  cases hv : v.ownBlock with
  | none => exact ⟨gM, hm.lt, map_ne h1 hm, map_ne h2 hm, fun _ h => by cases h⟩
  | some x =>
    obtain ⟨_, es, hb⟩ := own_row_blk hr hv
    exact ⟨x, hb.lt, blk_ne h1 hb (by decide), blk_ne h2 hb (by decide), fun y hy => by injection hy with hy; exact hy.symm⟩
section
variable {d : Nat} {t : TypeId} {p : String} {af : Array Edge} {g : Option (Nat × Bool)} {x x2 : Operand}
theorem b_shr_3 {a : Int} : Run2 Try.prog ⟨some d, .binOp .shr 3 x x2 55, t, p, af, g⟩ x x2 (.int .i64 a) (.int .u64 1) (.int .i64 (a / 2)) := fun ev w h1 h2 => by go_simp
theorem bx_66 : BoxRun Try.prog ⟨some d, .box 66 x, t, p, af, g⟩ x 66 := fun ev w cs h1 => by go_simp
theorem bd_66 {a : Int} : Run1 Try.prog ⟨some d, .build 66 #[(4, x)], t, p, af, g⟩ x (.int .i64 a) (.agg (thC a)) := fun ev w h1 => by go_simp
theorem fi_54 {j : Nat} (hj : j < 4) : ∀ (ev : Operand → Value) (w : World) (b off : Nat), ev x = .pointer (some ⟨b, off, none⟩) → ev x2 = .int .i64 j → (execOp ev ⟨some d, .indexAddr 54 x x2, t, p, af, g⟩).run Try.prog w = .ok (.value (.pointer (some ⟨b, off + j, none⟩))) w := fun ev w b off h1 h2 => by
  match j, hj with
  | 0, _ => go_simp
  | 1, _ => go_simp
  | 2, _ => go_simp
  | 3, _ => go_simp
theorem al_54 : AllocRun Try.prog ⟨some d, .alloc 54, t, p, af, none⟩ 54 #[.slice none 0 0, .slice none 0 0, .slice none 0 0, .slice none 0 0] := fun ev w => by go_simp
theorem ln_49t : LenRun Try.prog ⟨some d, .call { callee := .builtin .len, args := #[x], argTypes := #[49] }, t, p, af, g⟩ x := fun ev w A len cap h1 => by go_simp
section
variable {U : Prop} {ops : Array Oper} {Q : Exit → Act → World → Prop} {N : Nat} {e : Env} {c : Bool} {gA k : Nat} {cs : Array Value} {u : Value} {l : List Int}
theorem p_binE {u u' : TypeId} {o : BinOp} {v1 v2 : Value} {kk : IntKind} {n n' : Int} (hn : n = n') (hg : GdE ops e g c) (hx : OpdE e c x (.val v1)) (hx2 : OpdE e c x2 (.val v2)) (hr : Run2 Try.prog ⟨some d, .binOp o u x x2 u', t, p, af, g⟩ x x2 v1 v2 (.int kk n)) : Pays U Try.prog ops Q N e ⟨some d, .binOp o u x x2 u', t, p, af, g⟩ (c, .int kk n') := hn ▸ p_bin hg hx hx2 hr
theorem p_idxA (hk : k < 4) (hg : GdE ops e g c) (hx : OpdE e c x (.bp gA 54 cs 0)) (hx2 : OpdE e c x2 (.int .i64 k)) : Pays U Try.prog ops Q N e ⟨some d, .indexAddr 54 x x2, t, p, af, g⟩ (c, .bp gA 54 cs k) :=
  pVal hg fun e a w F hq => by
    have h := hx a w F (fun s hs => hq s (by simp [Op.operands, hs])) e
    exact ⟨_, fi_54 hk _ w gA 0 h.1 (hx2 a w F (fun s hs => hq s (by simp [Op.operands, hs])) e), by rw [Nat.zero_add], h.2⟩
theorem p_idxAV (hk : k < 4) (hg : GdE ops e g c) (hx : OpdE e c x (.val (ptrV gA))) (hx2 : OpdE e c x2 (.int .i64 k)) : Pays U Try.prog ops Q N e ⟨some d, .indexAddr 54 x x2, t, p, af, g⟩ (c, .val (.pointer (some ⟨gA, k, none⟩))) :=
  pVal hg fun e a w F hq => ⟨_, fi_54 hk _ w gA 0 (hx a w F (fun s hs => hq s (by simp [Op.operands, hs])) e) (hx2 a w F (fun s hs => hq s (by simp [Op.operands, hs])) e), by rw [Nat.zero_add]; rfl⟩
end
end
/-- A pointer into an array of rows, of which one is known. -/
def Sym.arrR (gA : Nat) (cs : Array Value) (k off : Nat) (u : Value) (l : List Int) : Sym := ⟨fun w F v => v = .pointer (some ⟨gA, off, none⟩) ∧ Blk w gA 54 cs ∧ cs[k]? = some u ∧ (Sym.one (Lay.sl (Lay.int .u64)) l).on w F u ∧ ∀ i, ¬ F (gA, i), by
  rintro w w' F F' v ⟨e, h1, h2, h3, h4⟩ hk hF
  exact ⟨e, (hk.whole gA h1.lt h4).trans h1, h2, Sym.mono _ h3 hk hF, fun i hf => h4 i (hF (gA, i) h1.lt hf)⟩⟩
section
variable {d : Nat} {t : TypeId} {p : String} {af : Array Edge} {g : Option (Nat × Bool)} {x x2 : Operand} {U : Prop} {ops : Array Oper} {Q : Exit → Act → World → Prop} {N : Nat} {e : Env} {c : Bool} {gA k : Nat} {cs : Array Value} {u : Value} {l : List Int}
theorem p_idxR (hk : k < 4) (hg : GdE ops e g c) (hx : OpdE e c x (.arrR gA cs k 0 u l)) (hx2 : OpdE e c x2 (.int .i64 k)) : Pays U Try.prog ops Q N e ⟨some d, .indexAddr 54 x x2, t, p, af, g⟩ (c, .arrR gA cs k k u l) :=
  pVal hg fun e a w F hq => by
    have h := hx a w F (fun s hs => hq s (by simp [Op.operands, hs])) e
    exact ⟨_, fi_54 hk _ w gA 0 h.1 (hx2 a w F (fun s hs => hq s (by simp [Op.operands, hs])) e), by rw [Nat.zero_add], h.2⟩
theorem p_ldR (hg : GdE ops e g c) (hx : OpdE e c x (.arrR gA cs k k u l)) : Pays U Try.prog ops Q N e ⟨some d, .load 29 x, t, p, af, g⟩ (c, .both (.val u) (.one (Lay.sl (Lay.int .u64)) l)) :=
  pVal hg fun e a w F hq => by
    have h := hx a w F (fun s hs => hq s (by simp [Op.operands, hs])) e
    exact ⟨u, ld_29 _ w gA k u h.1 (by rw [h.2.1.cell]; exact h.2.2.1), rfl, h.2.2.2.1⟩
end
theorem at_arr {w : World} {B gA k : Nat} {S : Nat → Prop} {U : Nat → Value} {W : Nat → List Int} (h : WAt w B gA S U W) (hk : k < 4) {v : Value} (hv : v = ptrV gA) : (Sym.arrR gA #[U 0, U 1, U 2, U 3] k 0 (U k) (W k)).on w noF v := ⟨hv, h.arr, arr_at hk, sl_of_own kF (h.row k hk) (F := noF) (fun _ _ _ _ h => h), fun _ h => h⟩
theorem cThrN {w : World} {B gT gM gr n : Nat} {t : Tab} {kv : Nat → Value} {l : List Int} (hT : TabAt w B gT gM t kv) (hI : TInv t gr l n) {on : Int} : Calls Try.prog 19 #[ptrV gT, .int .u64 2, .int .i64 on] w fun e w' => ∃ v, e = .returned v ∧ v = .slice none 0 0 ∧ Below w.heap.size w w' := by
  by_cases hn : 0 < n
  · obtain ⟨g, o, h1, _, h2, h3⟩ := hI.kid 0 hn
    exact cThr1 hT h1 h2 (by rcases h3.2.2.2 with h | h <;> omega)
  · exact cThr0 hT (hI.none (by decide) (fun j hj => by omega))
theorem name2 {i : Nat} (h : i ≤ 100) : IntKind.u64.wrap (IntKind.i64.wrap ((i : Int) + 2)) = (i : Int) + 2 := by
  rw [IntKind.wrap_i64, IntKind.wrap_u64]
  omega
theorem core_of (x : Int) : bits .and .i64 (x / 2) 3 = ((x / 2 % 4).toNat : Int) := by
  rw [i64_and3]
  omega
theorem odd_of (x : Int) : (bits .and .i64 x 1 == 1) = (x % 2 == 1) := by rw [i64_and1]

end Go.Proofs.Ytbeeiecbbmiojaa.Y
