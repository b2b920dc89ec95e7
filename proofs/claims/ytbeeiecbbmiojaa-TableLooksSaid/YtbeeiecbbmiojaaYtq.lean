/- Ytq: what the law on kids needs -/
import Derived.Test.YtbeeiecbbmiojaaYth
import Derived.Test.YtbeeiecbbmiojaaYtt
import Derived.Test.YtbeeiecbbmiojaaYtk
import Derived.Test.YtbeeiecbbmiojaaBits
namespace Go.Proofs.Ytbeeiecbbmiojaa.Y
open Go.RowKit Go.ChangeShapes Go.WideShapes Go.ChangeAt Go.ChangeMaps Go.MapKept

section
variable {d : Nat} {t : TypeId} {p : String} {af : Array Edge} {g : Option (Nat × Bool)} {x x2 : Operand}
theorem ix_22 : IndexRun Try.prog ⟨some d, .indexAddr 22 x x2, t, p, af, g⟩ x x2 1 := fun ev w b off len cap i h1 h2 h3 => by
  have hd : decide ((0 : Int) ≤ i) = true := by simp
  have hd2 : decide ((i : Int) < len) = true := by simp; omega
  go_simp
theorem ln_22 : LenRun Try.prog ⟨some d, .call { callee := .builtin .len, args := #[x], argTypes := #[22] }, t, p, af, g⟩ x := fun ev w A len cap h1 => by go_simp
theorem bs_29 {z : Int} : ∀ (ev : Operand → Value) (w : World), ev x = .int .u64 z → (execOp ev ⟨some d, .buildSlice 29 1 #[(0, x)], t, p, af, g⟩).run Try.prog w = .ok (.value (.slice (some ⟨w.heap.size, 0, none⟩) 1 1)) (w.alloc (.cells #[.int .u64 z] 28)) := fun ev w h1 => by go_simp
theorem cv_3_28 {a : Int} : Run1 Try.prog ⟨some d, .convert 3 28 x, t, p, af, g⟩ x (.int .i64 a) (.int .u64 (IntKind.u64.wrap a)) := fun ev w h1 => by go_simp
end
theorem p_cvE {P : Program} {U : Prop} {ops : Array Oper} {Q : Exit → Act → World → Prop} {N d : Nat} {e : Env} {t : TypeId} {p : String} {af : Array Edge} {g : Option (Nat × Bool)} {c : Bool} {x : Operand} {u u' : TypeId} {v : Value} {k : IntKind} {n n' : Int} (hn : n = n') (hg : GdE ops e g c) (hx : OpdE e c x (.val v)) (hr : Run1 P ⟨some d, .convert u u' x, t, p, af, g⟩ x v (.int k n)) : Pays U P ops Q N e ⟨some d, .convert u u' x, t, p, af, g⟩ (c, .int k n') := hn ▸ p_conv hg hx hr
theorem opens_i3 : Opens Try.prog 3 (Lay.int .i64) (fun _ => True) := opens_mono (fun _ _ => True.intro) (opens_int Try.underlying3)
theorem opens_i22 : Opens Try.prog 22 (Lay.sl (Lay.int .i64)) (fun l => l.length ≤ maxLen) := opens_mono (fun _ h => h.1) (opens_slice ⟨0⟩ Try.underlying22 (by kernel_rfl) (by decide) opens_i3)
theorem at_in {y : Sym} {w wr : World} {v v0 : Value} (h : y.on w noF v0) (hz : OnlyB (fun _ => False) w wr) (hv : v = v0) : y.on wr noF v := by
  subst hv
  exact y.mono h (.of (hz.to_below (fun _ _ h => h) (Nat.le_refl _))) fun _ _ h => h
theorem at_row {w : World} {B : Nat} {u v : Value} {l : List Int} (h : w.ownsRow B 28 1 u l.length (l.flatMap kE)) (hv : v = u) : (Sym.both (.val u) (.one (Lay.sl (Lay.int .u64)) l)).on w noF v := by
  subst hv
  exact ⟨rfl, sl_of_own kF h (F := noF) fun _ _ _ _ h => h⟩
theorem own_lt {w : World} {B E k n i : Nat} {v : Value} {xs : List Value} (h : w.ownsRow B E k v n xs) (e : v.ownBlock = some i) : i < w.heap.size := by
  obtain ⟨_, cs, hb⟩ := own_row_blk h e
  exact hb.lt
/-- Rows apart from a table stay so. -/
theorem apart_tab {w : World} {B n gT gM : Nat} {t t2 : Tab} {kv kv2 : Nat → Value} {u : Value} {xs : List Value} (hu : w.ownsRow B 28 1 u n xs) (hs : ∀ j, TabB gT gM t kv j → u.ownBlock ≠ some j) (h2 : ∀ i, TabB gT gM t2 kv2 i → TabB gT gM t kv i ∨ w.heap.size ≤ i) : ∀ j, TabB gT gM t2 kv2 j → u.ownBlock ≠ some j := fun j hj e => (h2 j hj).elim (fun h => hs j h e) fun h => absurd (own_lt hu e) (Nat.not_lt.2 h)
theorem apart_add {w : World} {B n gT gM g : Nat} {t t2 : Tab} {kv kv2 : Nat → Value} {u : Value} {xs : List Value} {o : TO} {cs : Array Value} (hu : w.ownsRow B 28 1 u n xs) (hO : Blk w g 48 cs) (hs : ∀ j, TabB gT gM t kv j → u.ownBlock ≠ some j) (hth : o.th = none) (h2 : ∀ i, TabB gT gM t2 kv2 i → TabB gT gM t kv i ∨ i = g ∨ (∃ on, o.th = some (i, on)) ∨ w.heap.size ≤ i) : ∀ j, TabB gT gM t2 kv2 j → u.ownBlock ≠ some j := fun j hj e => by
  rcases h2 j hj with h | h | ⟨_, h⟩ | h
  · exact hs j h e
  · subst h; exact row_ne hO hu (by decide) e
  · rw [hth] at h; cases h
  · exact absurd (own_lt hu e) (Nat.not_lt.2 h)
theorem apart_app {w : World} {B gT gM : Nat} {t : Tab} {kv : Nat → Value} {v v' : Value} (hT : TabAt w B gT gM t kv) (h : v'.ownBlock = v.ownBlock ∨ v'.ownBlock = some w.heap.size) (hs : ∀ j, TabB gT gM t kv j → v.ownBlock ≠ some j) : ∀ j, TabB gT gM t kv j → v'.ownBlock ≠ some j := fun j hj e => by
  rcases h with h | h
  · exact hs j hj (h ▸ e)
  · rw [h] at e
    injection e with e
    exact Nat.lt_irrefl _ (e ▸ (hT.lt hj).2)
theorem apart_row {w : World} {B n : Nat} {u v v' : Value} {xs : List Value} (hu : w.ownsRow B 28 1 u n xs) (h : v'.ownBlock = v.ownBlock ∨ v'.ownBlock = some w.heap.size) (hs : u.ownBlock = none ∨ u.ownBlock ≠ v.ownBlock) : u.ownBlock = none ∨ u.ownBlock ≠ v'.ownBlock := by
  cases hb : u.ownBlock with
  | none => exact .inl rfl
  | some i =>
    right
    rcases h with h | h
    · rw [h]
      rcases hs with hs | hs
      · rw [hb] at hs; cases hs
      · rw [← hb]; exact hs
    · rw [h]
      intro e
      injection e with e
      exact Nat.lt_irrefl _ (e ▸ own_lt hu hb)
theorem cRemK {w : World} {B gT gM g1 k : Nat} {t : Tab} {kv : Nat → Value} {want : List Int} {n : Int} (hT : TabAt w B gT gM t kv) (hK : KInv t g1 want) (hL : LenB t k) (hk : k ≤ 100000) (h1 : n ≠ 1) : Calls Try.prog 16 #[ptrV gT, .int .u64 n] w fun e w' => ∃ v, e = .returned v ∧ ∃ A c t2 kv2, v = .slice A (if n ∈ want then 1 else 0) c ∧ TabAt w' B gT gM t2 kv2 ∧ KInv t2 g1 (want.filter (· != n)) ∧ LenB t2 k ∧ OnlyB (TabB gT gM t kv) w w' ∧ ∀ i, TabB gT gM t2 kv2 i → TabB gT gM t kv i ∨ w.heap.size ≤ i := by
  by_cases hn : n ∈ want
  · obtain ⟨g, a1, a2, a3, a4, a5⟩ := hK.rem hn
    refine (cRem hT hK.ok (fun x q hq => Nat.le_trans (hL x q hq) hk) a1 a3 a4 (by simp)).mono ?_
    rintro _ w' ⟨v, rfl, kv', hrow, hT', hz, hB⟩
    obtain ⟨A, c, rfl⟩ := own_slice hrow
    exact ⟨_, rfl, A, c, _, kv', by rw [if_pos hn]; rfl, hT', a5, hL.rem, hz, hB⟩
  · refine (cRem0 hT (hK.none h1 hn)).mono ?_
    rintro _ w' ⟨v, rfl, rfl, hb⟩
    exact ⟨_, rfl, none, 0, t, kv, by rw [if_neg hn], hT.below hb, by rw [nil_filter hn]; exact hK, hL, (OnlyB.refl _ w).below hb, fun i hi => .inl hi⟩
theorem kids_same {want : List Int} {n : Int} : ((((if n ∈ want then 1 else 0 : Nat) : Int) == 1) != decide (((want.filter (· != n)).length : Int) < (want.length : Int))) = false := by
  have h := less_filter (want := want) (n := n)
  have e : decide (((want.filter (· != n)).length : Int) < (want.length : Int)) = decide ((want.filter (· != n)).length < want.length) := by
    rw [decide_eq_decide]; omega
  rw [e, h]
  by_cases hn : n ∈ want <;> simp [hn]
theorem take_filter {l : List Int} {j : Nat} {k : Int} {p : Int → Bool} (h : l[j]? = some k) : (l.take (j + 1)).filter p = (l.take j).filter p ++ (if p k then [k] else []) := by
  rw [List.take_add_one, h, List.filter_append]
  simp [List.filter_cons]
theorem name_of (x : Int) : IntKind.u64.wrap (IntKind.i64.wrap (bits .and .i64 x 7 + 2)) = x % 8 + 2 := by
  rw [i64_and7, IntKind.wrap_i64, IntKind.wrap_u64]
  omega
theorem kids_len {t : Tab} {g1 : Nat} {want : List Int} (h : KInv t g1 want) (hl : want.length ≤ 1000000) : ((t.tm.length : Int) == IntKind.i64.wrap ((want.length : Int) + 1)) = true := by
  rw [h.len, IntKind.wrap_i64, beq_iff_eq]
  omega
theorem apart_nil {u : Value} : u.ownBlock = none ∨ u.ownBlock ≠ (Value.slice none 0 0).ownBlock := by
  cases h : u.ownBlock with
  | none => exact .inl rfl
  | some i => exact .inr fun e => by cases e

end Go.Proofs.Ytbeeiecbbmiojaa.Y
