/- Yru: what the law on calls of a table needs -/
import Derived.Test.YtbeeiecbbmiojaaYrq
import Derived.Test.YtbeeiecbbmiojaaYtw
import Derived.Test.YtbeeiecbbmiojaaMTc
namespace Go.Proofs.Ytbeeiecbbmiojaa.Y
open Go.RowKit Go.ChangeShapes Go.WideShapes Go.ChangeAt Go.ChangeMaps Go.MapKept

abbrev cA (c : CR) : Array Value := #[.int .i64 c.kind, .int .u64 c.name, .int .u64 c.home, .int .i64 c.what, .int .i64 c.on]
theorem CR_eq {a b : CR} : a = b ↔ a.kind = b.kind ∧ a.name = b.name ∧ a.home = b.home ∧ a.what = b.what ∧ a.on = b.on := by
  cases a; cases b; simp
theorem Try.underlying92 : Try.prog.underlying 92 = some (.map 28 94) := by kernel_rfl
theorem Try.underlying82 : Try.prog.underlying 82 = some (.map 28 4) := by kernel_rfl
theorem zero94 (w : World) : (zeroValue 94).run Try.prog w = .ok (cV zR) w := by go_simp; exact ⟨rfl, rfl, rfl, rfl, rfl⟩
theorem zero4 (w : World) : (zeroValue 4).run Try.prog w = .ok (.bool false) w := by go_simp
theorem sz_94 : (Try.prog.info? 94).map (·.size) = some 5 := by kernel_rfl
theorem sz_29' : (Try.prog.info? 29).map (·.size) = some 1 := by kernel_rfl
theorem sz_42' : (Try.prog.info? 42).map (·.size) = some 1 := by kernel_rfl
theorem sz_3' : (Try.prog.info? 3).map (·.size) = some 1 := by kernel_rfl
theorem sz_28' : (Try.prog.info? 28).map (·.size) = some 1 := by kernel_rfl
theorem sz_4' : (Try.prog.info? 4).map (·.size) = some 1 := by kernel_rfl
theorem u94 : ∃ ty, Try.prog.underlying 94 = some ty ∧ ty.isRow = true := ⟨_, Try.underlying94, rfl⟩
def Run3 (P : Program) (o : Oper) (x x2 x3 : Operand) (v v2 v3 r : Value) : Prop := ∀ (ev : Operand → Value) (w : World), ev x = v → ev x2 = v2 → ev x3 = v3 → (execOp ev o).run P w = .ok (.value r) w
section
variable {d : Nat} {t : TypeId} {p : String} {af : Array Edge} {g : Option (Nat × Bool)} {x x2 x3 : Operand}
theorem bc_eql {a b : CR} : Run2 Try.prog ⟨some d, .binOp .eql 94 x x2 94, t, p, af, g⟩ x x2 (cV a) (cV b) (.bool (decide (a = b))) := fun ev w h1 h2 => by
  simp only [CR_eq]
  obtain ⟨a0, a1, a2, a3, a4⟩ := a
  obtain ⟨b0, b1, b2, b3, b4⟩ := b
  dsimp only [cV] at h1 h2 ⊢
  go_simp
  by_cases h3 : a0 = b0 <;> by_cases h4 : a1 = b1 <;> by_cases h5 : a2 = b2 <;> by_cases h6 : a3 = b3 <;> by_cases h7 : a4 = b4 <;> simp [h3, h4, h5, h6, h7]
theorem bd_94 : DoneRun Try.prog ⟨some d, .build 94 #[], t, p, af, g⟩ (cV zR) := fun ev w hc => by go_simp; first | rfl | exact ⟨rfl, rfl, rfl, rfl, rfl⟩
theorem bx_94 : BoxRun Try.prog ⟨some d, .box 94 x, t, p, af, g⟩ x 94 := fun ev w cs h1 => by go_simp
theorem al_94 : ∀ (ev : Operand → Value) (w : World), (execOp ev ⟨some d, .alloc 94, t, p, af, g⟩).run Try.prog w = .ok (.value (.pointer (some ⟨w.heap.size, 0, none⟩))) (w.alloc (.cells (cA zR) 94)) := fun ev w => by go_simp; first | rfl | exact ⟨rfl, rfl, rfl, rfl, rfl⟩
theorem fa_94_0 : FieldRun Try.prog ⟨some d, .fieldAddr 94 x 0, t, p, af, g⟩ x 0 := fun ev w b off h1 => by go_simp
theorem fa_94_1 : FieldRun Try.prog ⟨some d, .fieldAddr 94 x 1, t, p, af, g⟩ x 1 := fun ev w b off h1 => by go_simp
theorem fa_94_2 : FieldRun Try.prog ⟨some d, .fieldAddr 94 x 2, t, p, af, g⟩ x 2 := fun ev w b off h1 => by go_simp
theorem fa_94_3 : FieldRun Try.prog ⟨some d, .fieldAddr 94 x 3, t, p, af, g⟩ x 3 := fun ev w b off h1 => by go_simp
theorem fa_94_4 : FieldRun Try.prog ⟨some d, .fieldAddr 94 x 4, t, p, af, g⟩ x 4 := fun ev w b off h1 => by go_simp
theorem fo_94_0 {c : CR} : Run1 Try.prog ⟨some d, .field 94 x 0, t, p, af, g⟩ x (cV c) (.int .i64 c.kind) := fun ev w h1 => by
  obtain ⟨c0, c1, c2, c3, c4⟩ := c
  have h2 : (Instr.field 94 (cV ⟨c0, c1, c2, c3, c4⟩) 0).run Try.prog w = .ok (.int .i64 c0) w := by kernel_rfl
  simp [execOp, h1, h2, Result.andThen]
theorem fo_94_2 {c : CR} : Run1 Try.prog ⟨some d, .field 94 x 2, t, p, af, g⟩ x (cV c) (.int .u64 c.home) := fun ev w h1 => by
  obtain ⟨c0, c1, c2, c3, c4⟩ := c
  have h2 : (Instr.field 94 (cV ⟨c0, c1, c2, c3, c4⟩) 2).run Try.prog w = .ok (.int .u64 c2) w := by kernel_rfl
  simp [execOp, h1, h2, Result.andThen]
theorem bd_48r {n k h : Int} : Run3 Try.prog ⟨some d, .build 48 #[(1, x), (2, x2), (4, x3)], t, p, af, g⟩ x x2 x3 (.int .u64 n) (.int .i64 k) (.int .u64 h) (.agg (toC ⟨n, k, h, [], none⟩ (.slice none 0 0))) := fun ev w h1 h2 h3 => by go_simp; rfl
theorem bx_92 {m : Nat} : ∀ (ev : Operand → Value) (w : World), ev x = .map (some m) → (execOp ev ⟨some d, .box 92 x, t, p, af, g⟩).run Try.prog w = .ok (.value (.pointer (some ⟨w.heap.size, 0, none⟩))) (w.alloc (.cells #[.map (some m)] 92)) := fun ev w h1 => by go_simp
theorem bx_29 {A : Option Addr} {n cp : Nat} : ∀ (ev : Operand → Value) (w : World), ev x = .slice A n cp → (execOp ev ⟨some d, .box 29 x, t, p, af, g⟩).run Try.prog w = .ok (.value (.pointer (some ⟨w.heap.size, 0, none⟩))) (w.alloc (.cells #[.slice A n cp] 29)) := fun ev w h1 => by go_simp
theorem ld_92 : LoadRun Try.prog ⟨some d, .load 92 x, t, p, af, g⟩ x := fun ev w b off v h1 h2 => by go_simp
theorem bx_48' : BoxRun Try.prog ⟨some d, .box 48 x, t, p, af, g⟩ x 48 := fun ev w cs h1 => by go_simp
theorem bs_29' {z : Int} : ∀ (ev : Operand → Value) (w : World), ev x = .int .u64 z → (execOp ev ⟨some d, .buildSlice 29 1 #[(0, x)], t, p, af, g⟩).run Try.prog w = .ok (.value (.slice (some ⟨w.heap.size, 0, none⟩) 1 1)) (w.alloc (.cells #[.int .u64 z] 28)) := fun ev w h1 => by go_simp
end
theorem run_look2 {P : Program} {w : World} {b : Nat} {k : IntKind} {l : List (Int × Value)} {t kt et : TypeId} {z : Value} (h : MapAt w b k l) (ht : P.underlying t = some (.map kt et)) (hk : P.underlying kt = some (.int k)) (hz : (zeroValue et).run P w = .ok z w) (x : Int) :
    (Instr.lookup t (.map (some b)) (.int k x) true).run P w = .ok (.tuple #[(l.lookup x).getD z, .bool (l.lookup x).isSome]) w := by
  obtain ⟨es, c, h1, h2, hn, hst⟩ := h
  rcases find_pairs h2 x with ⟨h3, h4⟩ | ⟨j, v, h3, h4, _⟩
  · rw [lookup_no h4]
    simp [Instr.lookup, run_underlying ht, MapKept.run_getObj_map h1, run_checkKey hk (isKey x), run_findKey hk h3, hz, Result.andThen]
  · rw [lookup_at hn h4]
    simp [Instr.lookup, run_underlying ht, MapKept.run_getObj_map h1, run_checkKey hk (isKey x), run_findKey hk h3, Result.andThen]
theorem mm_in {n : Int} : ∀ {mm : Noted}, n ∈ mm.map (·.1) → (mm.lookup n).isSome = true
  | [], h => by cases h
  | p :: t, h => by
    rw [show List.lookup n (p :: t) = (match n == p.1 with | true => some p.2 | false => t.lookup n) from rfl]
    cases hq : n == p.1 with
    | true => rfl
    | false =>
      rw [List.map_cons, List.mem_cons] at h
      exact mm_in (h.resolve_left fun e => by rw [e] at hq; simp at hq)
theorem mV_some (mm : Noted) (n : Int) : ((mV mm).lookup n).isSome = (mm.map (·.1)).contains n := by
  rw [mV_look, Option.isSome_map]
  by_cases h : n ∈ mm.map (·.1)
  · rw [List.contains_iff_mem.2 h, mm_in h]
  · rw [mm_none h, show (mm.map (·.1)).contains n = false by simpa using h]; rfl
section
variable {U : Prop} {ops : Array Oper} {Q : Exit → Act → World → Prop} {N d : Nat} {e : Env} {t : TypeId} {p : String} {af : Array Edge} {g : Option (Nat × Bool)} {c : Bool} {x x2 x3 : Operand} {mm : Noted} {n : Int} {y : Sym} {l : List (Int × Value)} {b : Nat} {cc : CR}
theorem p_lookC (hg : GdE ops e g c) (hx : OpdE e c x (.both y (.map .u64 (mV mm)))) (hx2 : OpdE e c x2 (.int .u64 n)) : Pays U Try.prog ops Q N e ⟨some d, .lookup 92 x x2 false, t, p, af, g⟩ (c, .val (cV (crOf mm n))) := by
  rw [← mV_at]
  exact p_lookup Try.underlying92 Try.underlying28 zero94 hg (fun a w F h hc => (hx a w F h hc).2) hx2
theorem p_lookT (hg : GdE ops e g c) (hx : OpdE e c x (.both y (.map .u64 (mV mm)))) (hx2 : OpdE e c x2 (.int .u64 n)) : Pays U Try.prog ops Q N e ⟨some d, .lookup 92 x x2 true, t, p, af, g⟩ (c, .val (.tuple #[cV (crOf mm n), .bool ((mm.map (·.1)).contains n)])) :=
  pVal hg fun e a w F hk' => by
    obtain ⟨_, b, h1, h2, _⟩ := hx a w F (fun s hs => hk' s (by simp [Op.operands, hs])) e
    have h3 : a.eval x2 = .int .u64 n := hx2 a w F (fun s hs => hk' s (by simp [Op.operands, hs])) e
    refine ⟨_, ?_, rfl⟩
    have := run_look2 h2 Try.underlying92 Try.underlying28 (zero94 w) n
    rw [mV_at, mV_some] at this
    simp [execOp, h1, h3, this, Result.andThen]
theorem p_lookB {f : Int → Bool} (hf : ∀ n, (l.lookup n).getD (.bool false) = .bool (f n)) (hg : GdE ops e g c) (hx : OpdE e c x (.both y (.map .u64 l))) (hx2 : OpdE e c x2 (.int .u64 n)) : Pays U Try.prog ops Q N e ⟨some d, .lookup 82 x x2 false, t, p, af, g⟩ (c, .bool (f n)) := by
  have h := p_lookup (z := .bool false) (g := g) (c := c) (n := n) (l := l) (d := d) (t := t) (p := p) (af := af) (e := e) (ops := ops) (Q := Q) (N := N) (U := U) Try.underlying82 Try.underlying28 zero4 hg (fun a w F h hc => (hx a w F h hc).2) hx2
  rw [hf n] at h
  exact h
theorem p_ldC (hg : GdE ops e g c) (hx : OpdE e c x (.bp b 94 (cA cc) 0)) : Pays U Try.prog ops Q N e ⟨some d, .load 94 x, t, p, af, g⟩ (c, .val (cV cc)) :=
  pOf hg fun e a w F _ hk R hR => by
    have h := hx a w F (fun s hs => hk s (by simp [Op.operands, hs])) e
    obtain ⟨ty, hu, hd⟩ := u94
    refine wp_load_mid 94 x rfl b 0 h.1 (cL cc) ty (fun j v hv => ?_) hu hd sz_94 (hR _ w (Below.refl _ _) rfl)
    rw [h.2.1.cell, ← hv]
    simp
theorem p_run3 {op : Op} {v v2 v3 r : Value} (hx : OpdE e c x (.val v)) (hx2 : OpdE e c x2 (.val v2)) (hx3 : OpdE e c x3 (.val v3)) (hr : Run3 Try.prog ⟨some d, op, t, p, af, g⟩ x x2 x3 v v2 v3 r) (hs : ∀ s ∈ slotsOf x ++ slotsOf x2 ++ slotsOf x3, s ∈ op.operands.toList.flatMap slotsOf) (hg : GdE ops e g c) : Pays U Try.prog ops Q N e ⟨some d, op, t, p, af, g⟩ (c, .val r) :=
  pVal hg fun e a w F hk => ⟨r, hr _ w (hx a w F (fun s h => hk s (hs s (by simp [h]))) e) (hx2 a w F (fun s h => hk s (hs s (by simp [h]))) e) (hx3 a w F (fun s h => hk s (hs s (by simp [h]))) e), rfl⟩
end
theorem at_mp {w : World} {b : Nat} {l : List (Int × Value)} (h : MapAt w b .u64 l) {v : Value} (hv : v = .map (some b)) : (Sym.both (.val (.map (some b))) (.map .u64 l)).on w noF v := ⟨hv, b, hv, h, fun _ h => h⟩
/-- A map of truths. -/
def GL (l : List (Int × Value)) (f : Int → Bool) : Prop := ∀ n, (l.lookup n).getD (.bool false) = .bool (f n)
theorem gl_nil : GL [] (fun _ => false) := fun _ => rfl
theorem putA_look {l : List (Int × Value)} {x n : Int} {v : Value} : (putA l x v).lookup n = if n = x then some v else l.lookup n := by
  unfold putA
  split
  · rename_i hm
    induction l with
    | nil => cases hm
    | cons q t ih =>
      rw [List.map_cons]
      by_cases e : q.1 = x
      · rw [if_pos e]
        by_cases e2 : n = x
        · rw [if_pos e2, e2]; simp [List.lookup]
        · rw [if_neg e2]
          rw [show List.lookup n ((x, v) :: t.map fun p => if p.1 = x then (x, v) else p) = (match n == x with | true => some v | false => List.lookup n (t.map fun p => if p.1 = x then (x, v) else p)) from rfl, show (n == x) = false by simpa using e2]
          dsimp only
          rw [show List.lookup n (q :: t) = (match n == q.1 with | true => some q.2 | false => t.lookup n) from rfl, show (n == q.1) = false by rw [e]; simpa using e2]
          dsimp only
          by_cases h3 : x ∈ t.map (·.1)
          · rw [ih h3, if_neg e2]
          · congr 1
            refine (List.map_congr_left fun p hp => ?_).trans (List.map_id _)
            rw [if_neg]; rfl
            intro e4; exact h3 (e4 ▸ List.mem_map.2 ⟨p, hp, rfl⟩)
      · rw [if_neg e]
        rw [List.map_cons, List.mem_cons] at hm
        have hm2 := hm.resolve_left (fun e3 => e e3.symm)
        have ih := ih hm2
        rw [show ∀ u : List (Int × Value), List.lookup n (q :: u) = (match n == q.1 with | true => some q.2 | false => u.lookup n) from fun _ => rfl, show List.lookup n (q :: t) = (match n == q.1 with | true => some q.2 | false => t.lookup n) from rfl, ih]
        by_cases hq : n = q.1
        · rw [show (n == q.1) = true by simpa using hq, if_neg (fun e3 : n = x => e (hq.symm.trans e3)), if_neg (fun e3 : n = x => e (hq.symm.trans e3))]
        · rw [show (n == q.1) = false by simpa using hq]
  · rename_i hm
    rw [List.lookup_append]
    by_cases e : n = x
    · subst e
      rw [lookup_no hm, if_pos rfl]
      simp [List.lookup]
    · rw [if_neg e]
      cases l.lookup n <;> simp [List.lookup, show (n == x) = false by simpa using e]
theorem gl_put {l : List (Int × Value)} {f : Int → Bool} (h : GL l f) (x : Int) (b : Bool) : GL (putA l x (.bool b)) (fun y => if y = x then b else f y) := fun n => by
  rw [putA_look]
  dsimp only
  by_cases e : n = x
  · rw [if_pos e, if_pos e]; rfl
  · rw [if_neg e, if_neg e]; exact h n
theorem gl_as {l : List (Int × Value)} {f f2 : Int → Bool} (h : GL l f) (e : ∀ n, f n = f2 n) : GL l f2 := fun n => by rw [← e]; exact h n
theorem mV_put {mm : Noted} {n : Int} (c : CR) (h : n ∉ mm.map (·.1)) : putA (mV mm) n (cV c) = mV (mm ++ [(n, c)]) := by
  unfold putA
  rw [if_neg (by rw [mV_keys]; exact h), mV_app]
theorem mV_del {A B : Noted} {p : Int × CR} (h1 : p.1 ∉ A.map (·.1)) (h2 : p.1 ∉ B.map (·.1)) : delA (mV (A ++ p :: B)) p.1 = mV (A ++ B) := by
  have far : ∀ l : Noted, p.1 ∉ l.map (·.1) → (mV l).filter (fun q => q.1 != p.1) = mV l := fun l hl => List.filter_eq_self.2 fun q hq => by
    obtain ⟨r, hr, rfl⟩ := List.mem_map.1 hq
    simp only [bne_iff_ne]
    exact fun e => hl (e ▸ List.mem_map.2 ⟨r, hr, rfl⟩)
  unfold delA
  rw [show mV (A ++ p :: B) = mV A ++ (p.1, cV p.2) :: mV B by unfold mV; rw [List.map_append, List.map_cons], List.filter_append, List.filter_cons, if_neg (by simp), far A h1, far B h2]
  unfold mV; rw [List.map_append]
/-- A pair is taken out of a map. -/
theorem del_on {P : Program} {Q : Exit → Act → World → Prop} {N : Nat} {e e2 : Env} {a : Act} {w : World} {ops : Array Oper} {rest : List Oper} {o : Oper} {T kt et : TypeId} {k : IntKind} {l : List (Int × Value)} {b : Nat} {x1 x2 : Operand} {n : Int} (h : StE False N e noF a w) (hm : MapAt w b k l) (ho : o.op = .call { callee := .builtin .delete, args := #[x1, x2], argTypes := #[T, kt] }) (hd : o.dst = none) (hgd : o.guard = none)
    (h1 : a.eval x1 = .map (some b)) (h2 : a.eval x2 = .int k n) (ht : P.underlying T = some (.map kt et)) (hk : P.underlying kt = some (.int k)) (hv : ValsB e e2)
    (hQ : ∀ w', MapAt w' b k (delA l n) → w.grownBy w' (some b) → StE False N e2 noF a w' → wpList P ops Q rest a w') : wpList P ops Q (o :: rest) a w := by
  refine wpList_plain hgd fun K hK => ?_
  obtain ⟨w', r1, r2, r3⟩ := run_drop (P := P) hm ht hk n o.type
  have hfin := hQ w' r2 r3 (h.vals (fok_no _ _) hv)
  unfold Oper.wp execOp
  simp only [ho, resolve, invoke, builtin, Sem.run_bind, Sem.run_pure, Result.andThen_ok, List.map_toArray, List.map_cons, List.map_nil, h1, h2, r1]
  refine hK _ _ ?_
  rw [hd]
  exact hfin
theorem map_out {w : World} {B gT gM gm : Nat} {t : Tab} {kv : Nat → Value} {k : IntKind} {l : List (Int × Value)} (h : TabAt w B gT gM t kv) (hm : MapAt w gm k l) (hn : gm ≠ gM) : ¬ TabB gT gM t kv gm := fun hi => by
  rcases hi with rfl | rfl | ⟨g, o, hg, rfl | h5 | ⟨on, h5⟩⟩
  · exact map_ne h.tb hm rfl
  · exact hn rfl
  · exact map_ne (h.ob _ _ hg).blk hm rfl
  · exact row_map hm (h.ob _ _ hg).row h5
  · exact map_ne ((h.ob _ _ hg).th _ _ h5).1 hm rfl
abbrev nms (mm : Noted) : List Int := mm.map (·.1)
/-- What stands between the calls: the table, what is noted, and the order in which they came. -/
structure PAt (w : World) (B gT gM gm gO : Nat) (t : Tab) (kv : Nat → Value) (mm : Noted) (v : Value) : Prop where
  tab : TabAt w B gT gM t kv
  mp : MapAt w gm .u64 (mV mm)
  cell : Blk w gO 29 #[v]
  row : w.ownsRow B 28 1 v (nms mm).length ((nms mm).flatMap kE)
  bm : B ≤ gm
  bo : B ≤ gO
  nm : gm ≠ gM
  ap : ∀ j, TabB gT gM t kv j → v.ownBlock ≠ some j
theorem no_zero {t : Tab} {mm : Noted} (h : RInv t mm) {n : Int} : decide (crOf mm n = zR) = !(nms mm).contains n := by
  by_cases hn : n ∈ nms mm
  · rw [List.contains_iff_mem.2 hn]
    obtain ⟨p, hp, rfl⟩ := List.mem_map.1 hn
    rw [cr_mem h.nd hp]
    have := (h.cr p hp).1
    refine decide_eq_false fun e => ?_
    rw [e] at this
    cases this
  · rw [cr_none hn, show (nms mm).contains n = false by simpa using hn]; rfl
theorem is_kind {t : Tab} {mm : Noted} (h : RInv t mm) {n : Int} : ((crOf mm n).kind == 1) = (nms mm).contains n := by
  by_cases hn : n ∈ nms mm
  · rw [List.contains_iff_mem.2 hn]
    obtain ⟨p, hp, rfl⟩ := List.mem_map.1 hn
    rw [cr_mem h.nd hp, (h.cr p hp).1]; rfl
  · rw [cr_none hn, show (nms mm).contains n = false by simpa using hn]; rfl
theorem fil_id {mm : Noted} {n : Int} (h : n ∉ nms mm) : (mm.filter fun p => !goneF n mm p.1) = mm := List.filter_eq_self.2 fun p _ => by rw [gone_none h]; rfl
/-- What Remove makes of a table. -/
theorem cRemR {w : World} {B gT gM k : Nat} {t : Tab} {kv : Nat → Value} {mm : Noted} {n : Int} (hT : TabAt w B gT gM t kv) (hI : RInv t mm) (hL : LenB t k) (hk : k ≤ 100000) : Calls Try.prog 16 #[ptrV gT, .int .u64 n] w fun e w' => ∃ v, e = .returned v ∧ ∃ (t2 : Tab) (kv2 : Nat → Value) (ns : List Int), w'.ownsRow w.heap.size 27 1 v (ns.map (lookG t)).length ((ns.map (lookG t)).flatMap pE) ∧ TabAt w' B gT gM t2 kv2 ∧ RInv t2 (mm.filter fun p => !goneF n mm p.1) ∧ LenB t2 k ∧ OnlyB (TabB gT gM t kv) w w' ∧ (∀ i, TabB gT gM t2 kv2 i → TabB gT gM t kv i ∨ w.heap.size ≤ i) ∧ ns.length = (mm.filter fun p => goneF n mm p.1).length ∧ ns.length ≤ 16 ∧ ∀ i x, ns[i]? = some x → ∃ q, t2.ob (lookG t x) = some q ∧ q.name = x ∧ goneF n mm x = true ∧ x ∉ ns.take i ∧ (0 < i → q.home ∈ ns.take i) := by
  by_cases hn : n ∈ nms mm
  · obtain ⟨g, o, tm', ns, f, a1, a2, a3, a4, a5⟩ := hI.rem hn
    refine (cRem hT hI.ok (fun x q hq => Nat.le_trans (hL x q hq) hk) a1 a2 a3 (by rw [List.length_map]; have := a4.le; omega)).mono ?_
    rintro _ w' ⟨v, rfl, kv', hrow, hT', hz, hB⟩
    exact ⟨_, rfl, _, kv', ns, hrow, hT', a5, hL.rem, hz, hB, a4.len, a4.le, a4.ob⟩
  · refine (cRem0 hT (hI.gone0 hn)).mono ?_
    rintro _ w' ⟨v, rfl, rfl, hb⟩
    refine ⟨_, rfl, t, kv, [], ⟨rfl, .inl ⟨rfl, rfl⟩⟩, hT.below hb, by rw [fil_id hn]; exact hI, hL, (OnlyB.refl _ w).below hb, fun i hi => .inl hi, ?_, Nat.zero_le _, fun i x h => by simp at h⟩
    rw [show (mm.filter fun p => goneF n mm p.1) = [] from List.filter_eq_nil_iff.2 fun p _ => by rw [gone_none hn]; simp]
    rfl

end Go.Proofs.Ytbeeiecbbmiojaa.Y
