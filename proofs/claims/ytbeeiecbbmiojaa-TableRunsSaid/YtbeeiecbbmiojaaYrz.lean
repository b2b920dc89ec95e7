/- Yrz: what the law TableRuns needs -/
import Derived.Test.YtbeeiecbbmiojaaYry
namespace Go.Proofs.Ytbeeiecbbmiojaa.Y
open Go.RowKit Go.ChangeShapes Go.WideShapes Go.ChangeAt Go.ChangeMaps Go.MapKept

def crL : Lay CR := ((Lay.int .i64).pr ((Lay.int .u64).pr ((Lay.int .u64).pr ((Lay.int .i64).pr (Lay.int .i64))))).via fun c => (c.kind, c.name, c.home, c.what, c.on)
theorem crF : Flat crL (fun c => cL c) := fun w F cs x => Flat.via (fun c : CR => (c.kind, c.name, c.home, c.what, c.on)) (Flat.pr (Flat.int .i64) (Flat.pr (Flat.int .u64) (Flat.pr (Flat.int .u64) (Flat.pr (Flat.int .i64) (Flat.int .i64))))) w F cs x
theorem opens_call : Opens Try.prog 94 crL (fun _ => True) := opens_via (f := fun c : CR => (c.kind, c.name, c.home, c.what, c.on)) (fun x => (⟨x.1, x.2.1, x.2.2.1, x.2.2.2.1, x.2.2.2.2⟩ : CR)) (fun _ => rfl) (fun _ _ => True.intro) (opens_struct (fs := [_, _, _, _, _]) Try.underlying94 (by kernel_rfl) (fs_cons rfl (by kernel_rfl) (opens_int Try.underlying3) (fs_cons rfl (by kernel_rfl) (opens_int Try.underlying28) (fs_cons rfl (by kernel_rfl) (opens_int Try.underlying28) (fs_cons rfl (by kernel_rfl) (opens_int Try.underlying3) (fs_last rfl (by kernel_rfl) (opens_int Try.underlying3)))))))
theorem opens_calls : Opens Try.prog 91 (Lay.sl crL) (fun l => l.length ≤ maxLen) := opens_mono (fun _ h => h.1) (opens_slice ⟨zR⟩ Try.underlying91 (by kernel_rfl) (by decide) opens_call)
theorem at_cr {w : World} {F : Cell → Prop} {v : Value} {c : CR} (h : (Sym.st crL c).on w F v) : v = cV c := by
  obtain ⟨cs, rfl, h2⟩ := h
  rw [(crF w F cs c).1 h2]
section
variable {d : Nat} {t : TypeId} {p : String} {af : Array Edge} {g : Option (Nat × Bool)} {x x2 : Operand}
theorem ix_91 : IndexRun Try.prog ⟨some d, .indexAddr 91 x x2, t, p, af, g⟩ x x2 5 := fun ev w b off len cap i h1 h2 h3 => by
  have hd : decide ((0 : Int) ≤ i) = true := by simp
  have hd2 : decide ((i : Int) < len) = true := by simp; omega
  go_simp
theorem ln_91 : LenRun Try.prog ⟨some d, .call { callee := .builtin .len, args := #[x], argTypes := #[91] }, t, p, af, g⟩ x := fun ev w A len cap h1 => by go_simp
theorem al_29 : ∀ (ev : Operand → Value) (w : World), (execOp ev ⟨some d, .alloc 29, t, p, af, g⟩).run Try.prog w = .ok (.value (.pointer (some ⟨w.heap.size, 0, none⟩))) (w.alloc (.cells #[.slice none 0 0] 29)) := fun ev w => by go_simp
theorem inc_28 {i : Nat} (h : i + 1 < 18446744073709551616) : Run2 Try.prog ⟨some d, .binOp .add 28 x x2 28, t, p, af, g⟩ x x2 (.int .u64 i) (.int .u64 1) (.int .u64 ((i + 1 : Nat) : Int)) := fun ev w h1 h2 => by
  have e : IntKind.u64.wrap ((i : Int) + 1) = ((i + 1 : Nat) : Int) := by rw [IntKind.wrap_u64]; omega
  rw [← e]
  go_simp
end
/-- play: a call of both. -/
theorem cPlay {w : World} {B gT gM gm gO k : Nat} {t : Tab} {kv : Nat → Value} {mm : Noted} {v : Value} {xk xn xh xw xo : Int} (hP : PAt w B gT gM gm gO t kv mm v) (hI : RInv t mm) (hL : LenB t k) (hk : k ≤ 1000) : Calls Try.prog 34 #[ptrV gT, .map (some gm), ptrV gO, cV ⟨xk, xn, xh, xw, xo⟩] w fun e w' => ∃ v, e = .returned v ∧ v = .bool true ∧ ∃ (t' : Tab) (kv' : Nat → Value) (mm' : Noted) (v' : Value), PAt w' B gT gM gm gO t' kv' mm' v' ∧ RInv t' mm' ∧ LenB t' (k + 1) ∧ OnlyB (fun i => B ≤ i) w w' := by
  cases h : decide (bits .and .i64 xk 3 > 0) with
  | true => exact cPlayA hP hI hL hk h
  | false => exact cPlayR hP hI hL hk h
section
variable {w w' : World} {B gT gM gm gO : Nat} {t : Tab} {kv : Nat → Value} {mm : Noted} {v : Value}
theorem PAt.below (h : PAt w B gT gM gm gO t kv mm v) (hb : Below w.heap.size w w') : PAt w' B gT gM gm gO t kv mm v := ⟨h.tab.below hb, h.mp.below hb, h.cell.below hb h.cell.lt, own_below h.row hb, h.bm, h.bo, h.nm, h.ap⟩
theorem PAt.fresh {g : Nat} {cs : Array Value} (h : PAt w B gT gM gm gO t kv mm v) (hg : Blk w g 94 cs) (gS : w.grownBy w' (some g)) : PAt w' B gT gM gm gO t kv mm v := ⟨h.tab.grown gS (fun j hj e => tab_ty h.tab hg (by decide) (by decide) (by decide) (by decide) (by injection e with e; rw [e]; exact hj)), h.mp.grown gS (fun e => map_ne hg h.mp (by injection e)), h.cell.grown gS (fun e => blk_ne h.cell hg (by decide) (by injection e)), own_grownR h.row gS (.inr (row_ne hg h.row (by decide))), h.bm, h.bo, h.nm, h.ap⟩
theorem own_same {E B' k n : Nat} {xs : List Value} (h : w.ownsRow B' E k v n xs) (hn : ∀ g, v.ownBlock = some g → w'.heap[g]? = w.heap[g]?) : w'.ownsRow B' E k v n xs := by
  refine ⟨h.1, ?_⟩
  rcases h.2 with h3 | ⟨g, c, cur, e, h4, h5, r⟩
  · exact .inl h3
  · exact .inr ⟨g, c, cur, e, h4, (hn g (by rw [e]; rfl)).trans h5, r⟩
theorem TabAt.same (h : TabAt w B gT gM t kv) (hw : ∀ j, TabB gT gM t kv j → w'.heap[j]? = w.heap[j]?) : TabAt w' B gT gM t kv :=
  ⟨(hw _ (.inl rfl)).trans h.tb, h.mp.same (hw _ (.inr (.inl rfl))), fun g o h1 => ⟨(hw _ (.inr (.inr ⟨g, o, h1, .inl rfl⟩))).trans (h.ob g o h1).blk, own_same (h.ob g o h1).row fun _ hx => hw _ (.inr (.inr ⟨g, o, h1, .inr (.inl hx)⟩)), fun x on hx => ⟨(hw _ (.inr (.inr ⟨g, o, h1, .inr (.inr ⟨on, hx⟩)⟩))).trans ((h.ob g o h1).th x on hx).1, ((h.ob g o h1).th x on hx).2⟩⟩, h.kd, h.bT, h.bM, h.bo⟩
end
/-- A pointer to a table, all of it. -/
def Sym.tbl (B gT gM : Nat) (t : Tab) (kv : Nat → Value) : Sym := ⟨fun w F v => v = ptrV gT ∧ TabAt w B gT gM t kv ∧ ∀ j, TabB gT gM t kv j → ∀ i, ¬ F (j, i), by
  rintro w w' F F' v ⟨e, h1, h2⟩ hk hF
  exact ⟨e, h1.same fun j hj => hk.whole j (h1.lt hj).2 (h2 j hj), fun j hj i hf => h2 j hj i (hF (j, i) (h1.lt hj).2 hf)⟩⟩
section
variable {U : Prop} {B gT gM : Nat} {t : Tab} {kv : Nat → Value}
theorem fGet {n : Int} : Fn U Try.prog 17 [.tbl B gT gM t kv, .int .u64 n] (.val (optP (t.tm.lookup n))) := fn2 fun w F v1 v2 h1 h2 hF => by
  obtain ⟨rfl, hT, _⟩ := h1
  obtain rfl : v2 = .int .u64 n := h2
  refine (cGet hT).mono ?_
  rintro _ w' ⟨v, rfl, rfl, hb⟩
  exact ⟨_, rfl, rfl, hb⟩
theorem fIn {a b : Int} {r : Bool} {K : Nat} (hk : inF t a b K a = some r) : Fn U Try.prog 36 [.tbl B gT gM t kv, .int .u64 a, .int .u64 b] (.bool r) := fn3 fun w F v1 v2 v3 h1 h2 h3 hF => by
  obtain ⟨rfl, hT, _⟩ := h1
  obtain rfl : v2 = .int .u64 a := h2
  obtain rfl : v3 = .int .u64 b := h3
  refine (cIn hk hT).mono ?_
  rintro _ w' ⟨v, rfl, rfl, hb⟩
  exact ⟨_, rfl, rfl, hb⟩
end
/-- Is a container met on the way up, by so many steps? -/
def wantR (mm : Noted) (b : Int) : Nat → Int → Bool
  | 0, _ => false
  | k + 1, n => if n ∈ nms mm then n == b || wantR mm b k (crOf mm n).home else false
/-- So many are ahead of a name, or it is none. -/
def Near (mm : Noted) (k : Nat) (n : Int) : Prop := n ∈ nms mm → ∃ i c, mm[i]? = some (n, c) ∧ i < k
theorem near_all (mm : Noted) (n : Int) : Near mm mm.length n := fun hn => by
  obtain ⟨p, hp, rfl⟩ := List.mem_map.1 hn
  obtain ⟨i, hi⟩ := List.getElem?_of_mem hp
  exact ⟨i, p.2, hi, (List.getElem?_eq_some_iff.1 hi).1⟩
section
variable {t : Tab} {mm : Noted}
theorem want_none {b n : Int} {k : Nat} (hn : n ∉ nms mm) : wantR mm b k n = false := by
  cases k with
  | zero => rfl
  | succ k => exact if_neg hn
theorem RInv.climb (h : RInv t mm) {k : Nat} {n : Int} (hn : n ∈ nms mm) (hk : Near mm k n) : ∃ k', k = k' + 1 ∧ Near mm k' (crOf mm n).home ∧ ∀ b, wantR mm b k n = (n == b || wantR mm b k' (crOf mm n).home) := by
  obtain ⟨i, c, hi, hlt⟩ := hk hn
  obtain ⟨k', rfl⟩ : ∃ k', k = k' + 1 := ⟨k - 1, by omega⟩
  have hpm := List.mem_of_getElem? hi
  have hc : crOf mm n = c := cr_mem h.nd hpm
  refine ⟨k', rfl, fun hh => ?_, fun b => if_pos hn⟩
  rw [hc] at hh ⊢
  have hil := (List.getElem?_eq_some_iff.1 hi).1
  rcases h.up _ _ _ (mm_split hi).2 with h1 | ⟨q, hq, h1, _⟩
  · have h2 : c.home = 0 := h1.2
    exact absurd (h2 ▸ hh) h.zero
  · obtain ⟨j, hj⟩ := List.getElem?_of_mem hq
    have hjl := (List.getElem?_eq_some_iff.1 hj).1
    rw [List.length_take] at hjl
    rw [List.getElem?_take, if_pos (by omega)] at hj
    exact ⟨j, q.2, by rw [hj]; exact congrArg some (Prod.ext h1 rfl), by omega⟩
theorem in_up (h : RInv t mm) {a b : Int} (ha : a ∈ nms mm) : ∀ (k : Nat) (n : Int), (n ∈ nms mm ∨ n = 0) → Near mm k n → inF t a b (k + 1) n = some (wantR mm b k n)
  | k, n, hn, hk => by
    rw [inF]
    rcases hn with hn | rfl
    · obtain ⟨th, hmem, hl, ho⟩ := h.objs hn
      obtain ⟨k', rfl, hk2, hw⟩ := h.climb hn hk
      have h0 : n ≠ 0 := fun e => h.zero (e ▸ hn)
      rw [if_neg h0, hw]
      by_cases e : n = b
      · obtain ⟨_, _, hla, _⟩ := h.objs ha
        rw [if_pos e, hla]
        simp [e]
      · rw [if_neg e, hl]
        simp only [ho]
        rw [show (n == b) = false by simpa using e, Bool.false_or]
        exact in_up h ha k' _ ((h.homes hmem).symm) hk2
    · rw [if_pos rfl, want_none h.zero]
termination_by k => k
theorem in_law (h : RInv t mm) (a b : Int) : ∃ K, inF t a b K a = some (wantR mm b mm.length a) := by
  by_cases ha : a ∈ nms mm
  · exact ⟨_, in_up h ha mm.length a (.inl ha) (near_all mm a)⟩
  · refine ⟨1, ?_⟩
    have hl := h.gone0 ha
    rw [want_none ha, inF]
    by_cases h0 : a = 0
    · rw [if_pos h0]
    · rw [if_neg h0]
      by_cases e : a = b
      · rw [if_pos e, hl]; rfl
      · rw [if_neg e, hl]
theorem get_law (h : RInv t mm) (a : Int) : (t.tm.lookup a).isSome = (nms mm).contains a := by
  by_cases ha : a ∈ nms mm
  · obtain ⟨_, _, hl, _⟩ := h.objs ha
    rw [hl, List.contains_iff_mem.2 ha]; rfl
  · rw [h.gone0 ha, show (nms mm).contains a = false by simpa using ha]; rfl
end

end Go.Proofs.Ytbeeiecbbmiojaa.Y
