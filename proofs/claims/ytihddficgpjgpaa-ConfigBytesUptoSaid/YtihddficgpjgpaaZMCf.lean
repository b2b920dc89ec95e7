/- MCf: Ycfg, Ycfgf, Ycfgh, Ycfgo, Ycfgr, Ycfgd, Yplan, Ylight, one behind the other. -/
import Derived.Test.YtihddficgpjgpaaZMLx
namespace Go.Proofs.Ytihddficgpjgpaa.Y
open Go.RowKit Go.ChangeShapes Go.WideShapes Go.ChangeAt
/-- A map: its page, its segment, the segment's page, how many, whether it may be written. -/
structure M where
  pa : Int
  sg : Int
  fr : Int
  nn : Int
  wr : Bool
deriving DecidableEq, Inhabited
def mapL : Lay M := ((Lay.int .i64).pr ((Lay.int .u64).pr ((Lay.int .i64).pr ((Lay.int .i64).pr Lay.bool)))).via fun m => (m.pa, m.sg, m.fr, m.nn, m.wr)
def mapE (m : M) : List Value := [.int .i64 m.pa, .int .u64 m.sg, .int .i64 m.fr, .int .i64 m.nn, .bool m.wr]
theorem mapF : Flat mapL mapE := fun w F cs x => Flat.via (fun m : M => (m.pa, m.sg, m.fr, m.nn, m.wr)) (Flat.pr (Flat.int .i64) (Flat.pr (Flat.int .u64) (Flat.pr (Flat.int .i64) (Flat.pr (Flat.int .i64) Flat.bool)))) w F cs x
theorem pt145_0 : Part mapL (Lay.int .i64) 0 (fun m => m.pa) := Part.via (Part.fst (Part.self _))
theorem pt145_1 : Part mapL (Lay.int .u64) 1 (fun m => m.sg) := Part.via (Part.snd (Part.fst (Part.self _)))
theorem pt145_2 : Part mapL (Lay.int .i64) 2 (fun m => m.fr) := Part.via (Part.snd (Part.snd (Part.fst (Part.self _))))
theorem pt145_3 : Part mapL (Lay.int .i64) 3 (fun m => m.nn) := Part.via (Part.snd (Part.snd (Part.snd (Part.fst (Part.self _)))))
theorem pt145_4 : Part mapL Lay.bool 4 (fun m => m.wr) := Part.via (Part.snd (Part.snd (Part.snd (Part.snd (Part.self _)))))
/-- May it be a map? -/
def fitsB (m : M) : Bool := decide (1 ≤ m.nn ∧ m.nn ≤ 16 ∧ 0 ≤ m.pa ∧ m.pa + m.nn ≤ 4096 ∧ 0 ≤ m.fr ∧ m.fr + m.nn ≤ 16 ∧ m.sg ≠ 0)
theorem fits_eq (m : M) : (decide (1 ≤ m.nn) && decide (m.nn ≤ 16) && decide (0 ≤ m.pa) && decide (m.pa ≤ IntKind.i64.wrap (4096 - m.nn)) && decide (0 ≤ m.fr) && decide (m.fr ≤ IntKind.i64.wrap (16 - m.nn)) && (m.sg != 0)) = fitsB m := by
  unfold fitsB
  rw [Bool.eq_iff_iff]
  simp only [Bool.and_eq_true, decide_eq_true_eq, bne_iff_ne, IntKind.wrap_i64]
  omega
/-- From a page on they rise, and each may be. -/
def mapsFrom : Int → List M → Bool
  | _, [] => true
  | e, m :: t => (fitsB m && decide (e ≤ m.pa)) && mapsFrom (m.pa + m.nn) t
def mapsB (l : List M) : Bool := mapsFrom 0 l && decide ((l.length : Int) ≤ 16)
def endAt (l : List M) : Nat → Int
  | 0 => 0
  | i + 1 => match l[i]? with
    | some m => m.pa + m.nn
    | none => 0
theorem end_succ {l : List M} {i : Nat} {m : M} (h : l[i]? = some m) : endAt l (i + 1) = m.pa + m.nn := by simp [endAt, h]
theorem drop_at {l : List M} {i : Nat} {m : M} (h : l[i]? = some m) : l.drop i = m :: l.drop (i + 1) := by
  obtain ⟨hi, rfl⟩ := List.getElem?_eq_some_iff.1 h
  exact List.drop_eq_getElem_cons hi
theorem end_wrap {m : M} (h : fitsB m = true) : IntKind.i64.wrap (m.pa + m.nn) = m.pa + m.nn := by
  unfold fitsB at h
  rw [decide_eq_true_eq] at h
  rw [IntKind.wrap_i64]
  omega
theorem maps_bad {l : List M} {i : Nat} {m : M} (hx : mapsFrom 0 l = mapsFrom (endAt l i) (l.drop i)) (hm : l[i]? = some m) (h : (!fitsB m || decide (m.pa < endAt l i)) = true) : mapsB l = false := by
  unfold mapsB
  rw [hx, drop_at hm, mapsFrom]
  rw [Bool.or_eq_true, Bool.not_eq_true', decide_eq_true_eq] at h
  rcases h with h | h
  · simp [h]
  · simp [show ¬ (endAt l i ≤ m.pa) by omega]
theorem maps_go {l : List M} {i : Nat} {m : M} (hx : mapsFrom 0 l = mapsFrom (endAt l i) (l.drop i)) (hm : l[i]? = some m) (h : (!fitsB m || decide (m.pa < endAt l i)) = false) : mapsFrom 0 l = mapsFrom (endAt l (i + 1)) (l.drop (i + 1)) := by
  rw [Bool.or_eq_false_iff, Bool.not_eq_false', decide_eq_false_iff_not] at h
  rw [hx, drop_at hm, mapsFrom, end_succ hm, h.1]
  simp [show endAt l i ≤ m.pa by omega]
theorem maps_fits {m : M} {e : Int} (h : (!fitsB m || decide (m.pa < e)) = false) : fitsB m = true := by
  rw [Bool.or_eq_false_iff, Bool.not_eq_false'] at h
  exact h.1
theorem maps_end {l : List M} (hx : mapsFrom 0 l = mapsFrom (endAt l l.length) (l.drop l.length)) : decide ((l.length : Int) ≤ 16) = mapsB l := by
  unfold mapsB
  rw [hx, List.drop_length, mapsFrom, Bool.true_and]
abbrev slotL : Lay (Int × Int) := (Lay.int .u64).pr (Lay.int .i64)
theorem pt64_0 : Part slotL (Lay.int .u64) 0 (fun s => s.1) := Part.fst (Part.self _)
theorem pt64_1 : Part slotL (Lay.int .i64) 1 (fun s => s.2) := Part.snd (Part.self _)
/-- An object of a configuration. -/
structure Ob where
  k : Int
  par : Int
  lab : Lab
  clr : Lab
  pg : Int
  nm : Int
  dat : List Int
  mps : List M
  sp : Int
  pc : Int
/-- A configuration. -/
structure Cf where
  co : Int
  fr : Int
  nm : Int
  sl : List (Int × Int)
  obs : List Ob
def obL : Lay Ob := (((Lay.int .i64).pr ((Lay.int .i64).pr ((labL 12).pr ((labL 12).pr ((Lay.int .i64).pr ((Lay.int .i64).pr ((Lay.sl byL).pr ((Lay.sl mapL).pr ((Lay.int .i64).pr (Lay.int .i64))))))))))).via fun o => (o.k, o.par, o.lab, o.clr, o.pg, o.nm, o.dat, o.mps, o.sp, o.pc)
def cfL : Lay Cf := (((Lay.int .i64).pr ((Lay.int .i64).pr ((Lay.int .i64).pr ((Lay.sl slotL).pr (Lay.sl obL)))))).via fun o => (o.co, o.fr, o.nm, o.sl, o.obs)
theorem pt67_0 : Part obL (Lay.int .i64) 0 (fun o => o.k) := Part.via (Part.fst (Part.self _))
theorem pt67_1 : Part obL (Lay.int .i64) 1 (fun o => o.par) := Part.via (Part.snd (Part.fst (Part.self _)))
theorem pt67_2 : Part obL (labL 12) 2 (fun o => o.lab) := Part.via (Part.snd (Part.snd (Part.fst (Part.self _))))
theorem pt67_3 : Part obL (labL 12) 4 (fun o => o.clr) := Part.via (Part.snd (Part.snd (Part.snd (Part.fst (Part.self _)))))
theorem pt67_4 : Part obL (Lay.int .i64) 6 (fun o => o.pg) := Part.via (Part.snd (Part.snd (Part.snd (Part.snd (Part.fst (Part.self _))))))
theorem pt67_5 : Part obL (Lay.int .i64) 7 (fun o => o.nm) := Part.via (Part.snd (Part.snd (Part.snd (Part.snd (Part.snd (Part.fst (Part.self _)))))))
theorem pt67_6 : Part obL (Lay.sl byL) 8 (fun o => o.dat) := Part.via (Part.snd (Part.snd (Part.snd (Part.snd (Part.snd (Part.snd (Part.fst (Part.self _))))))))
theorem pt67_7 : Part obL (Lay.sl mapL) 9 (fun o => o.mps) := Part.via (Part.snd (Part.snd (Part.snd (Part.snd (Part.snd (Part.snd (Part.snd (Part.fst (Part.self _)))))))))
theorem pt67_8 : Part obL (Lay.int .i64) 10 (fun o => o.sp) := Part.via (Part.snd (Part.snd (Part.snd (Part.snd (Part.snd (Part.snd (Part.snd (Part.snd (Part.fst (Part.self _))))))))))
theorem pt67_9 : Part obL (Lay.int .i64) 11 (fun o => o.pc) := Part.via (Part.snd (Part.snd (Part.snd (Part.snd (Part.snd (Part.snd (Part.snd (Part.snd (Part.snd (Part.self _))))))))))
theorem pt59_0 : Part cfL (Lay.int .i64) 0 (fun o => o.co) := Part.via (Part.fst (Part.self _))
theorem pt59_1 : Part cfL (Lay.int .i64) 1 (fun o => o.fr) := Part.via (Part.snd (Part.fst (Part.self _)))
theorem pt59_2 : Part cfL (Lay.int .i64) 2 (fun o => o.nm) := Part.via (Part.snd (Part.snd (Part.fst (Part.self _))))
theorem pt59_3 : Part cfL (Lay.sl slotL) 3 (fun o => o.sl) := Part.via (Part.snd (Part.snd (Part.snd (Part.fst (Part.self _)))))
theorem pt59_4 : Part cfL (Lay.sl obL) 4 (fun o => o.obs) := Part.via (Part.snd (Part.snd (Part.snd (Part.snd (Part.self _)))))
theorem nu64 {U : Prop} : U → ∀ (i : Nat) (x : Int), (#[.int .u64 0, .int .i64 0] : Array Value)[i]? ≠ some (.int .u32 x) := fun _ i x => by
  rcases i with _ | _ | i <;> simp
theorem nu67 {U : Prop} : U → ∀ (i : Nat) (x : Int), (#[.int .i64 0, .int .i64 0, .int .i64 0, .slice none 0 0, .int .i64 0, .slice none 0 0, .int .i64 0, .int .i64 0, .slice none 0 0, .slice none 0 0, .int .i64 0, .int .i64 0] : Array Value)[i]? ≠ some (.int .u32 x) := fun _ i x => by
  rcases i with _ | _ | _ | _ | _ | _ | _ | _ | _ | _ | _ | _ | i <;> simp
theorem nu145 {U : Prop} : U → ∀ (i : Nat) (x : Int), (#[.int .i64 0, .int .u64 0, .int .i64 0, .int .i64 0, .bool false] : Array Value)[i]? ≠ some (.int .u32 x) := fun _ i x => by
  rcases i with _ | _ | _ | _ | _ | i <;> simp
theorem nuob {U : Prop} {l : Ob} : U → ∀ {w : World} {F : Cell → Prop} {cs : List Value}, obL.on w F cs l → ∀ x : Int, Value.int .u32 x ∉ cs := by
  rintro u w F cs ⟨c1, _, rfl, h1, c2, _, rfl, h2, c3, _, rfl, h3, c4, _, rfl, h4, c5, _, rfl, h5, c6, _, rfl, h6, c7, _, rfl, h7, c8, _, rfl, h8, c9, c10, rfl, h9, h10⟩ x hx
  have e3 := lab_nou h3 x
  have e4 := lab_nou h4 x
  obtain rfl : c1 = [.int .i64 l.k] := h1
  obtain rfl : c2 = [.int .i64 l.par] := h2
  obtain rfl : c5 = [.int .i64 l.pg] := h5
  obtain rfl : c6 = [.int .i64 l.nm] := h6
  obtain ⟨A, c, rfl, _⟩ := h7
  obtain ⟨A2, c2, rfl, _⟩ := h8
  obtain rfl : c9 = [.int .i64 l.sp] := h9
  obtain rfl : c10 = [.int .i64 l.pc] := h10
  simp [e3, e4] at hx
theorem sz_59 : (Try.prog.info? 59).map (·.size) = some 5 := by kernel_rfl
theorem u_59 : Try.prog.underlying 59 = some ((Try.prog.underlying 59).getD (.slice 0)) := by kernel_rfl
theorem ur_59 : ((Try.prog.underlying 59).getD (.slice 0)).isRow = true := by kernel_rfl
theorem sz_64 : (Try.prog.info? 64).map (·.size) = some 2 := by kernel_rfl
theorem u_64 : Try.prog.underlying 64 = some ((Try.prog.underlying 64).getD (.slice 0)) := by kernel_rfl
theorem ur_64 : ((Try.prog.underlying 64).getD (.slice 0)).isRow = true := by kernel_rfl
theorem sz_67 : (Try.prog.info? 67).map (·.size) = some 12 := by kernel_rfl
theorem u_67 : Try.prog.underlying 67 = some ((Try.prog.underlying 67).getD (.slice 0)) := by kernel_rfl
theorem ur_67 : ((Try.prog.underlying 67).getD (.slice 0)).isRow = true := by kernel_rfl
theorem sz_145 : (Try.prog.info? 145).map (·.size) = some 5 := by kernel_rfl
theorem u_145 : Try.prog.underlying 145 = some ((Try.prog.underlying 145).getD (.slice 0)) := by kernel_rfl
theorem ur_145 : ((Try.prog.underlying 145).getD (.slice 0)).isRow = true := by kernel_rfl
section
variable {d : Nat} {t : TypeId} {p : String} {af : Array Edge} {g : Option (Nat × Bool)} {x x2 : Operand}
theorem fa_59_0 : FieldRun Try.prog ⟨some d, .fieldAddr 59 x 0, t, p, af, g⟩ x 0 := fun ev w b off h1 => by go_simp
theorem fa_59_1 : FieldRun Try.prog ⟨some d, .fieldAddr 59 x 1, t, p, af, g⟩ x 1 := fun ev w b off h1 => by go_simp
theorem fa_59_2 : FieldRun Try.prog ⟨some d, .fieldAddr 59 x 2, t, p, af, g⟩ x 2 := fun ev w b off h1 => by go_simp
theorem fa_59_3 : FieldRun Try.prog ⟨some d, .fieldAddr 59 x 3, t, p, af, g⟩ x 3 := fun ev w b off h1 => by go_simp
theorem fa_59_4 : FieldRun Try.prog ⟨some d, .fieldAddr 59 x 4, t, p, af, g⟩ x 4 := fun ev w b off h1 => by go_simp
theorem fa_67_0 : FieldRun Try.prog ⟨some d, .fieldAddr 67 x 0, t, p, af, g⟩ x 0 := fun ev w b off h1 => by go_simp
theorem fa_67_1 : FieldRun Try.prog ⟨some d, .fieldAddr 67 x 1, t, p, af, g⟩ x 1 := fun ev w b off h1 => by go_simp
theorem fa_67_2 : FieldRun Try.prog ⟨some d, .fieldAddr 67 x 2, t, p, af, g⟩ x 2 := fun ev w b off h1 => by go_simp
theorem fa_67_3 : FieldRun Try.prog ⟨some d, .fieldAddr 67 x 3, t, p, af, g⟩ x 4 := fun ev w b off h1 => by go_simp
theorem fa_67_4 : FieldRun Try.prog ⟨some d, .fieldAddr 67 x 4, t, p, af, g⟩ x 6 := fun ev w b off h1 => by go_simp
theorem fa_67_5 : FieldRun Try.prog ⟨some d, .fieldAddr 67 x 5, t, p, af, g⟩ x 7 := fun ev w b off h1 => by go_simp
theorem fa_67_6 : FieldRun Try.prog ⟨some d, .fieldAddr 67 x 6, t, p, af, g⟩ x 8 := fun ev w b off h1 => by go_simp
theorem fa_67_7 : FieldRun Try.prog ⟨some d, .fieldAddr 67 x 7, t, p, af, g⟩ x 9 := fun ev w b off h1 => by go_simp
theorem fa_67_8 : FieldRun Try.prog ⟨some d, .fieldAddr 67 x 8, t, p, af, g⟩ x 10 := fun ev w b off h1 => by go_simp
theorem fa_67_9 : FieldRun Try.prog ⟨some d, .fieldAddr 67 x 9, t, p, af, g⟩ x 11 := fun ev w b off h1 => by go_simp
theorem fa_64_0 : FieldRun Try.prog ⟨some d, .fieldAddr 64 x 0, t, p, af, g⟩ x 0 := fun ev w b off h1 => by go_simp
theorem fa_64_1 : FieldRun Try.prog ⟨some d, .fieldAddr 64 x 1, t, p, af, g⟩ x 1 := fun ev w b off h1 => by go_simp
theorem fa_145_0 : FieldRun Try.prog ⟨some d, .fieldAddr 145 x 0, t, p, af, g⟩ x 0 := fun ev w b off h1 => by go_simp
theorem fa_145_1 : FieldRun Try.prog ⟨some d, .fieldAddr 145 x 1, t, p, af, g⟩ x 1 := fun ev w b off h1 => by go_simp
theorem fa_145_2 : FieldRun Try.prog ⟨some d, .fieldAddr 145 x 2, t, p, af, g⟩ x 2 := fun ev w b off h1 => by go_simp
theorem fa_145_3 : FieldRun Try.prog ⟨some d, .fieldAddr 145 x 3, t, p, af, g⟩ x 3 := fun ev w b off h1 => by go_simp
theorem fa_145_4 : FieldRun Try.prog ⟨some d, .fieldAddr 145 x 4, t, p, af, g⟩ x 4 := fun ev w b off h1 => by go_simp
theorem ld_53 : LoadRun Try.prog ⟨some d, .load 53 x, t, p, af, g⟩ x := fun ev w b off v h1 h2 => by go_simp
theorem ld_57 : LoadRun Try.prog ⟨some d, .load 57 x, t, p, af, g⟩ x := fun ev w b off v h1 h2 => by go_simp
theorem ld_65 : LoadRun Try.prog ⟨some d, .load 65 x, t, p, af, g⟩ x := fun ev w b off v h1 h2 => by go_simp
theorem ld_22 : LoadRun Try.prog ⟨some d, .load 22 x, t, p, af, g⟩ x := fun ev w b off v h1 h2 => by go_simp
theorem ld_23 : LoadRun Try.prog ⟨some d, .load 23 x, t, p, af, g⟩ x := fun ev w b off v h1 h2 => by go_simp
theorem ix_53 : IndexRun Try.prog ⟨some d, .indexAddr 53 x x2, t, p, af, g⟩ x x2 2 := fun ev w b off len cap i h1 h2 h3 => by
  have hd : decide ((0 : Int) ≤ i) = true := by simp
  have hd2 : decide ((i : Int) < len) = true := by simp; omega
  go_simp
theorem ix_57 : IndexRun Try.prog ⟨some d, .indexAddr 57 x x2, t, p, af, g⟩ x x2 12 := fun ev w b off len cap i h1 h2 h3 => by
  have hd : decide ((0 : Int) ≤ i) = true := by simp
  have hd2 : decide ((i : Int) < len) = true := by simp; omega
  go_simp
theorem ix_65 : IndexRun Try.prog ⟨some d, .indexAddr 65 x x2, t, p, af, g⟩ x x2 5 := fun ev w b off len cap i h1 h2 h3 => by
  have hd : decide ((0 : Int) ≤ i) = true := by simp
  have hd2 : decide ((i : Int) < len) = true := by simp; omega
  go_simp
theorem ln_53 : LenRun Try.prog ⟨some d, .call { callee := .builtin .len, args := #[x], argTypes := #[53] }, t, p, af, g⟩ x := fun ev w A len cap h1 => by go_simp
theorem ln_57 : LenRun Try.prog ⟨some d, .call { callee := .builtin .len, args := #[x], argTypes := #[57] }, t, p, af, g⟩ x := fun ev w A len cap h1 => by go_simp
theorem ln_65 : LenRun Try.prog ⟨some d, .call { callee := .builtin .len, args := #[x], argTypes := #[65] }, t, p, af, g⟩ x := fun ev w A len cap h1 => by go_simp
theorem al_64 : AllocRun Try.prog ⟨some d, .alloc 64, t, p, af, none⟩ 64 #[.int .u64 0, .int .i64 0] := fun ev w => by go_simp
theorem al_67 : AllocRun Try.prog ⟨some d, .alloc 67, t, p, af, none⟩ 67 #[.int .i64 0, .int .i64 0, .int .i64 0, .slice none 0 0, .int .i64 0, .slice none 0 0, .int .i64 0, .int .i64 0, .slice none 0 0, .slice none 0 0, .int .i64 0, .int .i64 0] := fun ev w => by go_simp
theorem al_145 : AllocRun Try.prog ⟨some d, .alloc 145, t, p, af, none⟩ 145 #[.int .i64 0, .int .u64 0, .int .i64 0, .int .i64 0, .bool false] := fun ev w => by go_simp
theorem bx_59 : BoxRun Try.prog ⟨some d, .box 59 x, t, p, af, g⟩ x 59 := fun ev w cs h1 => by go_simp
theorem bx_145 : BoxRun Try.prog ⟨some d, .box 145 x, t, p, af, g⟩ x 145 := fun ev w cs h1 => by go_simp
theorem b_gtr_23 {a b : Int} : Run2 Try.prog ⟨some d, .binOp .gtr 23 x x2 23, t, p, af, g⟩ x x2 (.int .u64 a) (.int .u64 b) (.bool (decide (b < a))) := fun ev w h1 h2 => by go_simp
theorem cv_3_23 {a : Int} : Run1 Try.prog ⟨some d, .convert 3 23 x, t, p, af, g⟩ x (.int .i64 a) (.int .u64 (IntKind.u64.wrap a)) := fun ev w h1 => by go_simp
end
end Go.Proofs.Ytihddficgpjgpaa.Y
namespace Go.Proofs.Ytihddficgpjgpaa.Y
open Go.RowKit Go.ChangeShapes Go.WideShapes Go.ChangeAt
set_option maxRecDepth 100000 in
theorem f130 {m : M} : Fn True Try.prog 130 [.st mapL m] (.bool (fitsB m)) := fn1 fun w F v0 h0 hF => by
  go_enter Try.func130, Try.ntmps130
  refine wp_seq ?_
  refine flowC mixed (st0 (U := True) (N := 42) (e := [(0, true, .st mapL m)]) (F := F) rfl rfl hF ⟨⟨rfl, h0⟩, True.intro⟩) (by kernel_rfl) (by kernel_rfl) (cc rfl (p_box bx_145 g0 (od rfl id))
      (cc rfl (p_assign g0 (oc _)) cn)) fun a1 w1 b1 s1 => ?_
  have z1 := b1
  refine wp_seq ?_
  refine flowT (s1.keep (sc 1 rfl (sc 2 rfl sn))) (by kernel_rfl) (cc rfl (p_fieldAddr pt145_3 fa_145_3 g0 (od rfl id))
      (cc rfl (p_loadI ld_3 g0 (od rfl id))
      (cc rfl (p_bin g0 (od rfl id) (oc _) b_geq_3)
      (cc rfl (p_move g0 (od rfl id))
      (cc rfl (p_fieldAddr pt145_3 fa_145_3 (g1 rfl rfl) (od rfl (fun _ => rfl)))
      (cc rfl (p_loadI ld_3 (g1 rfl rfl) (od rfl id))
      (cc rfl (p_bin (g1 rfl rfl) (od rfl id) (oc _) b_leq_3)
      (cc rfl (p_and g0 (od rfl id) (od rfl id))
      (cc rfl (p_move g0 (od rfl id))
      (cc rfl (p_fieldAddr pt145_0 fa_145_0 (g1 rfl rfl) (od rfl (fun _ => rfl)))
      (cc rfl (p_loadI ld_3 (g1 rfl rfl) (od rfl id))
      (cc rfl (p_bin (g1 rfl rfl) (od rfl id) (oc _) b_geq_3)
      (cc rfl (p_and g0 (od rfl id) (od rfl id))
      (cc rfl (p_move g0 (od rfl id))
      (cc rfl (p_fieldAddr pt145_0 fa_145_0 (g1 rfl rfl) (od rfl (fun _ => rfl)))
      (cc rfl (p_loadI ld_3 (g1 rfl rfl) (od rfl id))
      (cc rfl (p_fieldAddr pt145_3 fa_145_3 (g1 rfl rfl) (od rfl (fun _ => rfl)))
      (cc rfl (p_loadI ld_3 (g1 rfl rfl) (od rfl id))
      (cc rfl (p_bin (g1 rfl rfl) (oc _) (od rfl id) b_sub_3)
      (cc rfl (p_bin (g1 rfl rfl) (od rfl id) (od rfl id) b_leq_3)
      (cc rfl (p_and g0 (od rfl id) (od rfl id))
      (cc rfl (p_move g0 (od rfl id))
      (cc rfl (p_fieldAddr pt145_2 fa_145_2 (g1 rfl rfl) (od rfl (fun _ => rfl)))
      (cc rfl (p_loadI ld_3 (g1 rfl rfl) (od rfl id))
      (cc rfl (p_bin (g1 rfl rfl) (od rfl id) (oc _) b_geq_3)
      (cc rfl (p_and g0 (od rfl id) (od rfl id))
      (cc rfl (p_move g0 (od rfl id))
      (cc rfl (p_fieldAddr pt145_2 fa_145_2 (g1 rfl rfl) (od rfl (fun _ => rfl)))
      (cc rfl (p_loadI ld_3 (g1 rfl rfl) (od rfl id))
      (cc rfl (p_fieldAddr pt145_3 fa_145_3 (g1 rfl rfl) (od rfl (fun _ => rfl)))
      (cc rfl (p_loadI ld_3 (g1 rfl rfl) (od rfl id))
      (cc rfl (p_bin (g1 rfl rfl) (oc _) (od rfl id) b_sub_3)
      (cc rfl (p_bin (g1 rfl rfl) (od rfl id) (od rfl id) b_leq_3)
      (cc rfl (p_and g0 (od rfl id) (od rfl id))
      (cc rfl (p_move g0 (od rfl id))
      (cc rfl (p_fieldAddr pt145_1 fa_145_1 (g1 rfl rfl) (od rfl (fun _ => rfl)))
      (cc rfl (p_loadI ld_23 (g1 rfl rfl) (od rfl id))
      (cc rfl (p_bin (g1 rfl rfl) (od rfl id) (oc _) b_neq_23)
      (cc rfl (p_and g0 (od rfl id) (od rfl id))
      (cc rfl (p_assign g0 (od rfl id)) cn)))))))))))))))))))))))))))))))))))))))) fun a2 w2 b2 s2 => ?_
  have z2 := z1.trans (b2.mono z1.size)
  have s2 := s2.more 2 (y := .bool (fitsB m)) (bool_as (s2.get 2 rfl) (fits_eq m))
  exact wp_ret (ret_tmp (fn := Try.f130) s2 2 rfl rfl (fun _ h => h) z2)
set_option maxRecDepth 100000 in
theorem f119 {l : List M} (hl0 : l.length ≤ maxLen) : Fn True Try.prog 119 [.one (Lay.sl mapL) l] (.bool (mapsB l)) := fn1 fun w F v0 h0 hF => by
  have hl : l.length ≤ 9223372036854775807 := hl0
  go_enter Try.func119, Try.ntmps119
  refine wp_seq ?_
  refine flowC mixed (st0 (U := True) (N := 30) (e := [(0, true, .one (Lay.sl mapL) l)]) (F := F) rfl rfl hF ⟨⟨rfl, h0⟩, True.intro⟩) (by kernel_rfl) (by kernel_rfl) (cc rfl (p_assign g0 (oc _)) cn) fun a1 w1 b1 s1 => ?_
  have z1 := b1
  refine wp_seq ?_
  refine flowC mixed (s1.keep (sc 0 rfl (sc 2 rfl sn))) (by kernel_rfl) (by kernel_rfl) (cc rfl (p_assign g0 (oc _)) cn) fun a2 w2 b2 s2 => ?_
  have z2 := z1.trans (b2.mono z1.size)
  refine wp_seq ?_
  refine wp_seq ?_
  refine flowC mixed (s2.keep (sc 0 rfl (sc 2 rfl (sc 3 rfl sn)))) (by kernel_rfl) (by kernel_rfl) (cc rfl (p_move g0 (od rfl id))
      (cc rfl (p_len ln_65 g0 (od rfl id))
      (cc rfl (p_move g0 (oc _)) cn))) fun a3 w3 b3 s3 => ?_
  have z3 := z2.trans (b3.mono z2.size)
  refine wp_block ?_
  refine wp_range l.length 8 (fun i => [(3, true, .int .i64 (endAt l i))]) (fun i w => mapsFrom 0 l = mapsFrom (endAt l i) (l.drop i)) (s3.keep (sc 8 rfl (sc 3 rfl (sc 0 rfl (sc 2 rfl (sc 6 rfl (sc 7 rfl sn))))))) z3 (rfl) fun i a4 w4 hi1 s4 z4 x4 => ?_
  refine wp_seq ?_
  refine flowC mixed (s4.keep (sc 0 rfl (sc 2 rfl (sc 3 rfl (sc 6 rfl (sc 7 rfl (sc 8 rfl sn))))))) (by kernel_rfl) (by kernel_rfl) (cc rfl (p_bin g0 (od rfl id) (od rfl id) b_lss_3) cn) fun a5 w5 b5 s5 => ?_
  have z5 := z4.trans (b5.mono z4.size)
  refine wp_seq ?_
  refine s5.cond 9 rfl (fun h => ?_) (fun h => ?_)
  · -- true
    have hlt1 : i < l.length := by simpa using h
    obtain ⟨m, em⟩ : ∃ x, l[i]? = some x := ⟨_, List.getElem?_eq_getElem hlt1⟩
    refine wp_skip ?_
    refine wp_seq ?_
    refine wp_block ?_
    refine wp_seq ?_
    refine flowQ 3 mixed (s5.keep (sc 0 rfl (sc 2 rfl (sc 3 rfl (sc 6 rfl (sc 7 rfl (sc 8 rfl (sc 9 rfl sn)))))))) (by kernel_rfl) (by kernel_rfl) (cc rfl (p_index ix_65 em g0 (od rfl id) (od rfl id))
        (cc rfl (p_load u_145 ur_145 sz_145 g0 (od rfl id))
        (ca rfl (m_alloc al_145 nu145) cn))) (by kernel_rfl) (ss rfl rfl rfl rfl puts_st sz_145 rfl rfl ss0) fun a6 w6 b6 s6 => ?_
    have z6 := z5.trans (b6.mono z5.size)
    refine wp_seq ?_
    refine wp_seq ?_
    refine flowC mixed (s6.keep (sc 0 rfl (sc 2 rfl (sc 3 rfl (sc 5 rfl (sc 6 rfl (sc 7 rfl (sc 8 rfl (sc 9 rfl (sc 10 rfl (sc 11 rfl sn))))))))))) (by kernel_rfl) (by kernel_rfl) (cc rfl (p_load u_145 ur_145 sz_145 g0 (od rfl id))
        (cc rfl (p_call 130 g0 (ox (od rfl id) ox0) (fun _ _ => by kernel_rfl) f130)
        (cc rfl (p_not g0 (od rfl id))
        (cc rfl (p_move g0 (od rfl id))
        (cc rfl (p_fieldAddr pt145_0 fa_145_0 (g1 rfl rfl) (od rfl (fun _ => rfl)))
        (cc rfl (p_loadI ld_3 (g1 rfl rfl) (od rfl id))
        (cc rfl (p_move (g1 rfl rfl) (od rfl (fun _ => rfl)))
        (cc rfl (p_bin (g1 rfl rfl) (od rfl id) (od rfl id) b_lss_3)
        (cc rfl (p_or g0 (od rfl id) (od rfl id)) cn))))))))) fun a7 w7 b7 s7 => ?_
    have z7 := z6.trans (b7.mono z6.size)
    refine s7.cond 20 rfl (fun h20 => ?_) (fun h20 => ?_)
    · -- true
      refine wp_seq ?_
      refine flowT (s7.keep (sc 0 rfl (sc 2 rfl (sc 3 rfl (sc 5 rfl (sc 6 rfl (sc 7 rfl (sc 8 rfl (sc 9 rfl (sc 10 rfl (sc 11 rfl (sc 12 rfl (sc 13 rfl (sc 14 rfl (sc 15 rfl (sc 16 rfl (sc 17 rfl (sc 18 rfl (sc 19 rfl (sc 20 rfl sn)))))))))))))))))))) (by kernel_rfl) (cc rfl (p_assign g0 (oc _)) cn) fun a8 w8 b8 s8 => ?_
      have z8 := z7.trans (b8.mono z7.size)
      have s8 := s8.more 2 (y := .bool (mapsB l)) (bool_as (s8.get 2 rfl) (maps_bad x4 em h20).symm)
      exact wp_ret (ret_tmp (fn := Try.f119) s8 2 rfl rfl (fun _ h => h) z8)
    · -- false
      refine wp_skip ?_
      refine flowT (s7.keep (sc 0 rfl (sc 2 rfl (sc 3 rfl (sc 5 rfl (sc 6 rfl (sc 7 rfl (sc 8 rfl (sc 9 rfl (sc 10 rfl (sc 11 rfl (sc 12 rfl (sc 13 rfl (sc 14 rfl (sc 15 rfl (sc 16 rfl (sc 17 rfl (sc 18 rfl (sc 19 rfl (sc 20 rfl sn)))))))))))))))))))) (by kernel_rfl) (cc rfl (p_fieldAddr pt145_0 fa_145_0 g0 (od rfl id))
          (cc rfl (p_loadI ld_3 g0 (od rfl id))
          (cc rfl (p_fieldAddr pt145_3 fa_145_3 g0 (od rfl id))
          (cc rfl (p_loadI ld_3 g0 (od rfl id))
          (cc rfl (p_bin g0 (od rfl id) (od rfl id) b_add_3)
          (cc rfl (p_assign g0 (od rfl id)) cn)))))) fun a9 w9 b9 s9 => ?_
      have z9 := z7.trans (b9.mono z7.size)
      have s9 := s9.more 3 (y := .int .i64 (endAt l (i + 1))) (int_as (s9.get 3 rfl) ((end_wrap (maps_fits h20)).trans (end_succ em).symm))
      refine flowT (s9.keep (sc 0 rfl (sc 2 rfl (sc 3 rfl (sc 5 rfl (sc 6 rfl (sc 7 rfl (sc 8 rfl (sc 9 rfl (sc 10 rfl (sc 11 rfl (sc 12 rfl (sc 13 rfl (sc 14 rfl (sc 15 rfl (sc 16 rfl (sc 17 rfl (sc 18 rfl (sc 19 rfl (sc 20 rfl (sc 21 rfl (sc 22 rfl (sc 23 rfl (sc 24 rfl (sc 25 rfl sn))))))))))))))))))))))))) (by kernel_rfl) (cc rfl (p_bin g0 (od rfl id) (oc _) (inc_3 (by omega)))
          (cc rfl (p_move g0 (od rfl id)) cn)) fun a10 w10 b10 s10 => ?_
      have z10 := z9.trans (b10.mono z9.size)
      exact ⟨hlt1, s10.to _ ⟨rfl, rfl, rfl, rfl, rfl, rfl, True.intro⟩, z10, maps_go x4 em h20⟩
  · -- false
    obtain rfl : i = l.length := by have := of_decide_eq_false h; (try dsimp only at this); omega
    refine wp_exit ?_
    refine wp_seq ?_
    refine flowT (s5.keep (sc 0 rfl (sc 2 rfl (sc 3 rfl (sc 6 rfl (sc 7 rfl (sc 8 rfl sn))))))) (by kernel_rfl) (cc rfl (p_move g0 (od rfl id))
        (cc rfl (p_len ln_65 g0 (od rfl id))
        (cc rfl (p_bin g0 (od rfl id) (oc _) b_leq_3)
        (cc rfl (p_assign g0 (od rfl id)) cn)))) fun a11 w11 b11 s11 => ?_
    have z11 := z5.trans (b11.mono z5.size)
    have s11 := s11.more 2 (y := .bool (mapsB l)) (bool_as (s11.get 2 rfl) (maps_end x4))
    exact wp_ret (ret_tmp (fn := Try.f119) s11 2 rfl rfl (fun _ h => h) z11)
/-- May these be the slots? -/
def slotB (s : Int × Int) : Bool := !(decide (s.2 < 1) || decide ((16 : Int) < s.2))
def slotsB (l : List (Int × Int)) : Bool := l.all slotB && (decide (1 ≤ (l.length : Int)) && decide ((l.length : Int) ≤ 8))
theorem all_go {α : Type} {l : List α} {f : α → Bool} {i : Nat} {x : α} (hx : (l.take i).all f = true) (hm : l[i]? = some x) (h : f x = true) : (l.take (i + 1)).all f = true := by
  obtain ⟨hi, rfl⟩ := List.getElem?_eq_some_iff.1 hm
  rw [List.take_succ_eq_append_getElem hi, List.all_append, hx]
  simp [h]
theorem all_no {α : Type} {l : List α} {f : α → Bool} {i : Nat} {x : α} (hm : l[i]? = some x) (h : f x = false) : l.all f = false := by
  rw [List.all_eq_false]
  exact ⟨x, List.mem_of_getElem? hm, by rw [h]; simp⟩
theorem not_of {b : Bool} (h : b = true) : (!b) = false := by rw [h]; rfl
theorem not_on {b : Bool} (h : b = false) : (!b) = true := by rw [h]; rfl
set_option maxRecDepth 100000 in
theorem f99 {l : List (Int × Int)} (hl0 : l.length ≤ maxLen) : Fn True Try.prog 99 [.one (Lay.sl slotL) l] (.bool (slotsB l)) := fn1 fun w F v0 h0 hF => by
  have hl : l.length ≤ 9223372036854775807 := hl0
  go_enter Try.func99, Try.ntmps99
  refine wp_seq ?_
  refine flowC mixed (st0 (U := True) (N := 28) (e := [(0, true, .one (Lay.sl slotL) l)]) (F := F) rfl rfl hF ⟨⟨rfl, h0⟩, True.intro⟩) (by kernel_rfl) (by kernel_rfl) (cc rfl (p_assign g0 (oc _)) cn) fun a1 w1 b1 s1 => ?_
  have z1 := b1
  refine wp_seq ?_
  refine wp_seq ?_
  refine flowC mixed (s1.keep (sc 0 rfl (sc 2 rfl sn))) (by kernel_rfl) (by kernel_rfl) (cc rfl (p_move g0 (od rfl id))
      (cc rfl (p_len ln_53 g0 (od rfl id))
      (cc rfl (p_move g0 (oc _)) cn))) fun a2 w2 b2 s2 => ?_
  have z2 := z1.trans (b2.mono z1.size)
  refine wp_block ?_
  refine wp_range l.length 7 (fun i => []) (fun i w => (l.take i).all slotB = true) (s2.keep (sc 7 rfl (sc 0 rfl (sc 2 rfl (sc 5 rfl (sc 6 rfl sn)))))) z2 (by simp) fun i a3 w3 hi1 s3 z3 x3 => ?_
  refine wp_seq ?_
  refine flowC mixed (s3.keep (sc 0 rfl (sc 2 rfl (sc 5 rfl (sc 6 rfl (sc 7 rfl sn)))))) (by kernel_rfl) (by kernel_rfl) (cc rfl (p_bin g0 (od rfl id) (od rfl id) b_lss_3) cn) fun a4 w4 b4 s4 => ?_
  have z4 := z3.trans (b4.mono z3.size)
  refine wp_seq ?_
  refine s4.cond 8 rfl (fun h => ?_) (fun h => ?_)
  · -- true
    have hlt1 : i < l.length := by simpa using h
    obtain ⟨ce, ece⟩ : ∃ x, l[i]? = some x := ⟨_, List.getElem?_eq_getElem hlt1⟩
    refine wp_skip ?_
    refine wp_seq ?_
    refine wp_block ?_
    refine wp_seq ?_
    refine flowQ 3 mixed (s4.keep (sc 0 rfl (sc 2 rfl (sc 5 rfl (sc 6 rfl (sc 7 rfl (sc 8 rfl sn))))))) (by kernel_rfl) (by kernel_rfl) (cc rfl (p_index ix_53 ece g0 (od rfl id) (od rfl id))
        (cc rfl (p_load u_64 ur_64 sz_64 g0 (od rfl id))
        (ca rfl (m_alloc al_64 nu64) cn))) (by kernel_rfl) (ss rfl rfl rfl rfl puts_st sz_64 rfl rfl ss0) fun a5 w5 b5 s5 => ?_
    have z5 := z4.trans (b5.mono z4.size)
    refine wp_seq ?_
    refine flowC mixed (s5.keep (sc 0 rfl (sc 2 rfl (sc 4 rfl (sc 5 rfl (sc 6 rfl (sc 7 rfl (sc 8 rfl (sc 9 rfl (sc 10 rfl sn)))))))))) (by kernel_rfl) (by kernel_rfl) (cc rfl (p_fieldAddr pt64_1 fa_64_1 g0 (od rfl id))
        (cc rfl (p_loadI ld_3 g0 (od rfl id))
        (cc rfl (p_bin g0 (od rfl id) (oc _) b_lss_3)
        (cc rfl (p_move g0 (od rfl id))
        (cc rfl (p_fieldAddr pt64_1 fa_64_1 (g1 rfl rfl) (od rfl (fun _ => rfl)))
        (cc rfl (p_loadI ld_3 (g1 rfl rfl) (od rfl id))
        (cc rfl (p_bin (g1 rfl rfl) (od rfl id) (oc _) b_gtr_3)
        (cc rfl (p_or g0 (od rfl id) (od rfl id)) cn)))))))) fun a6 w6 b6 s6 => ?_
    have z6 := z5.trans (b6.mono z5.size)
    refine s6.cond 18 rfl (fun h18 => ?_) (fun h18 => ?_)
    · -- true
      refine wp_seq ?_
      refine flowT (s6.keep (sc 0 rfl (sc 2 rfl (sc 4 rfl (sc 5 rfl (sc 6 rfl (sc 7 rfl (sc 8 rfl (sc 9 rfl (sc 10 rfl (sc 11 rfl (sc 12 rfl (sc 13 rfl (sc 14 rfl (sc 15 rfl (sc 16 rfl (sc 17 rfl (sc 18 rfl sn)))))))))))))))))) (by kernel_rfl) (cc rfl (p_assign g0 (oc _)) cn) fun a7 w7 b7 s7 => ?_
      have z7 := z6.trans (b7.mono z6.size)
      have s7 := s7.more 2 (y := .bool (slotsB l)) (bool_as (s7.get 2 rfl) (by unfold slotsB; rw [all_no ece (show slotB ce = false from not_of h18)]; rfl))
      exact wp_ret (ret_tmp (fn := Try.f99) s7 2 rfl rfl (fun _ h => h) z7)
    · -- false
      refine wp_skip ?_
      refine flowT (s6.keep (sc 0 rfl (sc 2 rfl (sc 4 rfl (sc 5 rfl (sc 6 rfl (sc 7 rfl (sc 8 rfl (sc 9 rfl (sc 10 rfl (sc 11 rfl (sc 12 rfl (sc 13 rfl (sc 14 rfl (sc 15 rfl (sc 16 rfl (sc 17 rfl (sc 18 rfl sn)))))))))))))))))) (by kernel_rfl) (cc rfl (p_bin g0 (od rfl id) (oc _) (inc_3 (by omega)))
          (cc rfl (p_move g0 (od rfl id)) cn)) fun a8 w8 b8 s8 => ?_
      have z8 := z6.trans (b8.mono z6.size)
      exact ⟨hlt1, s8.to _ ⟨rfl, rfl, rfl, rfl, rfl, True.intro⟩, z8, all_go x3 ece (not_on h18)⟩
  · -- false
    obtain rfl : i = l.length := by have := of_decide_eq_false h; (try dsimp only at this); omega
    refine wp_exit ?_
    refine wp_seq ?_
    refine flowT (s4.keep (sc 0 rfl (sc 2 rfl (sc 5 rfl (sc 6 rfl (sc 7 rfl sn)))))) (by kernel_rfl) (cc rfl (p_move g0 (od rfl id))
        (cc rfl (p_len ln_53 g0 (od rfl id))
        (cc rfl (p_bin g0 (od rfl id) (oc _) b_geq_3)
        (cc rfl (p_move g0 (od rfl id))
        (cc rfl (p_move (g1 rfl rfl) (od rfl (fun _ => rfl)))
        (cc rfl (p_len ln_53 (g1 rfl rfl) (od rfl id))
        (cc rfl (p_bin (g1 rfl rfl) (od rfl id) (oc _) b_leq_3)
        (cc rfl (p_and g0 (od rfl id) (od rfl id))
        (cc rfl (p_assign g0 (od rfl id)) cn))))))))) fun a9 w9 b9 s9 => ?_
    have z9 := z4.trans (b9.mono z4.size)
    have s9 := s9.more 2 (y := .bool (slotsB l)) (bool_as (s9.get 2 rfl) (by have hx := x3; rw [List.take_length] at hx; unfold slotsB; rw [hx]; rfl))
    exact wp_ret (ret_tmp (fn := Try.f99) s9 2 rfl rfl (fun _ h => h) z9)
/-- Are its segments among so many objects? -/
def segB (n : Nat) (m : M) : Bool := !(decide (IntKind.u64.wrap (n : Int) < m.sg))
set_option maxRecDepth 100000 in
theorem f120 {c : Cf} {l : List M} (hl0 : l.length ≤ maxLen) : Fn True Try.prog 120 [.st cfL c, .one (Lay.sl mapL) l] (.bool (l.all (segB c.obs.length))) := fn2 fun w F v0 v1 h0 h1 hF => by
  have hl : l.length ≤ 9223372036854775807 := hl0
  go_enter Try.func120, Try.ntmps120
  refine wp_seq ?_
  refine flowC mixed (st0 (U := True) (N := 21) (e := [(0, true, .st cfL c), (1, true, .one (Lay.sl mapL) l)]) (F := F) rfl rfl hF ⟨⟨rfl, h0⟩, ⟨⟨rfl, h1⟩, True.intro⟩⟩) (by kernel_rfl) (by kernel_rfl) (cc rfl (p_box bx_59 g0 (od rfl id))
      (cc rfl (p_assign g0 (oc _)) cn)) fun a1 w1 b1 s1 => ?_
  have z1 := b1
  refine wp_seq ?_
  refine wp_seq ?_
  refine flowC mixed (s1.keep (sc 1 rfl (sc 2 rfl (sc 4 rfl sn)))) (by kernel_rfl) (by kernel_rfl) (cc rfl (p_move g0 (od rfl id))
      (cc rfl (p_len ln_65 g0 (od rfl id))
      (cc rfl (p_move g0 (oc _)) cn))) fun a2 w2 b2 s2 => ?_
  have z2 := z1.trans (b2.mono z1.size)
  refine wp_block ?_
  refine wp_range l.length 9 (fun i => []) (fun i w => (l.take i).all (segB c.obs.length) = true) (s2.keep (sc 9 rfl (sc 2 rfl (sc 4 rfl (sc 7 rfl (sc 8 rfl sn)))))) z2 (by simp) fun i a3 w3 hi1 s3 z3 x3 => ?_
  refine wp_seq ?_
  refine flowC mixed (s3.keep (sc 2 rfl (sc 4 rfl (sc 7 rfl (sc 8 rfl (sc 9 rfl sn)))))) (by kernel_rfl) (by kernel_rfl) (cc rfl (p_bin g0 (od rfl id) (od rfl id) b_lss_3) cn) fun a4 w4 b4 s4 => ?_
  have z4 := z3.trans (b4.mono z3.size)
  refine wp_seq ?_
  refine s4.cond 10 rfl (fun h => ?_) (fun h => ?_)
  · -- true
    have hlt1 : i < l.length := by simpa using h
    obtain ⟨ce, ece⟩ : ∃ x, l[i]? = some x := ⟨_, List.getElem?_eq_getElem hlt1⟩
    refine wp_skip ?_
    refine wp_seq ?_
    refine wp_block ?_
    refine wp_seq ?_
    refine flowQ 3 mixed (s4.keep (sc 2 rfl (sc 4 rfl (sc 7 rfl (sc 8 rfl (sc 9 rfl (sc 10 rfl sn))))))) (by kernel_rfl) (by kernel_rfl) (cc rfl (p_index ix_65 ece g0 (od rfl id) (od rfl id))
        (cc rfl (p_load u_145 ur_145 sz_145 g0 (od rfl id))
        (ca rfl (m_alloc al_145 nu145) cn))) (by kernel_rfl) (ss rfl rfl rfl rfl puts_st sz_145 rfl rfl ss0) fun a5 w5 b5 s5 => ?_
    have z5 := z4.trans (b5.mono z4.size)
    refine wp_seq ?_
    refine flowC mixed (s5.keep (sc 2 rfl (sc 4 rfl (sc 6 rfl (sc 7 rfl (sc 8 rfl (sc 9 rfl (sc 10 rfl (sc 11 rfl (sc 12 rfl sn)))))))))) (by kernel_rfl) (by kernel_rfl) (cc rfl (p_fieldAddr pt145_1 fa_145_1 g0 (od rfl id))
        (cc rfl (p_loadI ld_23 g0 (od rfl id))
        (cc rfl (p_fieldAddr pt59_4 fa_59_4 g0 (od rfl id))
        (cc rfl (p_load1 rfl ld_57 g0 (od rfl id))
        (cc rfl (p_len ln_57 g0 (od rfl id))
        (cc rfl (p_conv g0 (od rfl id) cv_3_23)
        (cc rfl (p_bin g0 (od rfl id) (od rfl id) b_gtr_23) cn))))))) fun a6 w6 b6 s6 => ?_
    have z6 := z5.trans (b6.mono z5.size)
    refine s6.cond 19 rfl (fun h19 => ?_) (fun h19 => ?_)
    · -- true
      refine wp_seq ?_
      refine flowT (s6.keep (sc 2 rfl (sc 4 rfl (sc 6 rfl (sc 7 rfl (sc 8 rfl (sc 9 rfl (sc 10 rfl (sc 11 rfl (sc 12 rfl (sc 13 rfl (sc 14 rfl (sc 15 rfl (sc 16 rfl (sc 17 rfl (sc 18 rfl (sc 19 rfl sn))))))))))))))))) (by kernel_rfl) (cc rfl (p_assign g0 (oc _)) cn) fun a7 w7 b7 s7 => ?_
      have z7 := z6.trans (b7.mono z6.size)
      have s7 := s7.more 4 (y := .bool (l.all (segB c.obs.length))) (bool_as (s7.get 4 rfl) (all_no ece (show segB c.obs.length ce = false from not_of h19)).symm)
      exact wp_ret (ret_tmp (fn := Try.f120) s7 4 rfl rfl (fun _ h => h) z7)
    · -- false
      refine wp_skip ?_
      refine flowT (s6.keep (sc 2 rfl (sc 4 rfl (sc 6 rfl (sc 7 rfl (sc 8 rfl (sc 9 rfl (sc 10 rfl (sc 11 rfl (sc 12 rfl (sc 13 rfl (sc 14 rfl (sc 15 rfl (sc 16 rfl (sc 17 rfl (sc 18 rfl (sc 19 rfl sn))))))))))))))))) (by kernel_rfl) (cc rfl (p_bin g0 (od rfl id) (oc _) (inc_3 (by omega)))
          (cc rfl (p_move g0 (od rfl id)) cn)) fun a8 w8 b8 s8 => ?_
      have z8 := z6.trans (b8.mono z6.size)
      exact ⟨hlt1, s8.to _ ⟨rfl, rfl, rfl, rfl, rfl, True.intro⟩, z8, all_go x3 ece (not_on h19)⟩
  · -- false
    obtain rfl : i = l.length := by have := of_decide_eq_false h; (try dsimp only at this); omega
    refine wp_exit ?_
    refine wp_seq ?_
    refine flowT (s4.keep (sc 2 rfl (sc 4 rfl (sc 7 rfl (sc 8 rfl (sc 9 rfl sn)))))) (by kernel_rfl) (cc rfl (p_assign g0 (oc _)) cn) fun a9 w9 b9 s9 => ?_
    have z9 := z4.trans (b9.mono z4.size)
    have s9 := s9.more 4 (y := .bool (l.all (segB c.obs.length))) (bool_as (s9.get 4 rfl) (by have hx := x3; rw [List.take_length] at hx; exact hx.symm))
    exact wp_ret (ret_tmp (fn := Try.f120) s9 4 rfl rfl (fun _ h => h) z9)
end Go.Proofs.Ytihddficgpjgpaa.Y
namespace Go.Proofs.Ytihddficgpjgpaa.Y
open Go.RowKit Go.ChangeShapes Go.WideShapes Go.ChangeAt
/-- Where an object is at home, and whether it may be there. -/
def homeB (c : Cf) (i : Nat) (o : Ob) : Lab × Bool :=
  if o.par = 0 then (⟨2, []⟩, true)
  else match c.obs[(o.par - 1).toNat]? with
    | some p => if o.par < 0 ∨ (i : Int) < o.par ∨ p.k ≠ 1 then (⟨0, []⟩, false) else (p.lab, true)
    | none => (⟨0, []⟩, false)
theorem home_0 {c : Cf} {i : Nat} {o : Ob} (h : o.par = 0) : homeB c i o = (⟨2, []⟩, true) := by unfold homeB; rw [if_pos h]
theorem home_no {c : Cf} {i : Nat} {o : Ob} (h0 : ¬ o.par = 0) (h : ¬ (1 ≤ o.par ∧ o.par ≤ (i : Int))) : homeB c i o = (⟨0, []⟩, false) := by
  unfold homeB
  rw [if_neg h0]
  split
  · rw [if_pos (by omega)]
  · rfl
theorem home_at {c : Cf} {i j : Nat} {o p : Ob} (h0 : ¬ o.par = 0) (h : 1 ≤ o.par ∧ o.par ≤ (i : Int)) (hj : o.par = (j : Int) + 1) (ej : c.obs[j]? = some p) : homeB c i o = if p.k = 1 then (p.lab, true) else (⟨0, []⟩, false) := by
  unfold homeB
  rw [if_neg h0, show (o.par - 1).toNat = j by omega, ej]
  simp only
  by_cases hk : p.k = 1
  · rw [if_neg (by omega), if_pos hk]
  · rw [if_pos (by omega), if_neg hk]
theorem lab0_on {w : World} {F : Cell → Prop} : (Sym.st (labL 12) ⟨0, []⟩).on w F (.agg #[.int .i64 0, .slice none 0 0]) := ⟨[.int .i64 0, .slice none 0 0], rfl, ⟨[_], [_], rfl, rfl, none, 0, rfl, fun h => absurd h (by simp), Nat.le_refl _⟩, ⟨⟨True.intro, fun p hp => by cases hp⟩, by simp⟩⟩
theorem f60t {d : Int} : Fn True Try.prog 60 [.int .i64 d] (.lb ⟨d, []⟩ 12) := fun w F vs hl ho hF => (f60 (d := d) w F vs hl ho hF).mono (by
  rintro _ w' ⟨v, e, ⟨cs, e2, h1, h2⟩, hb⟩
  exact ⟨v, e, ⟨cs, e2, h1, ⟨h2.good, by simp⟩⟩, hb⟩)
set_option maxRecDepth 100000 in
theorem f118 {c : Cf} {i : Nat} {o : Ob} (ei : c.obs[i]? = some o) (hL : c.obs.length ≤ 100000) : Fn True Try.prog 118 [.st cfL c, .int .i64 (i : Int)] (.two (.lb (homeB c i o).1 12) (.bool (homeB c i o).2)) := fn2 fun w F v0 v1 h0 h1 hF => by
  go_enter Try.func118, Try.ntmps118
  refine wp_seq ?_
  refine flowN mixed (st0 (U := True) (N := 43) (e := [(0, true, .st cfL c), (1, true, .int .i64 (i : Int))]) (F := F) rfl rfl hF ⟨⟨rfl, h0⟩, ⟨⟨rfl, h1⟩, True.intro⟩⟩) (by kernel_rfl) (by kernel_rfl) (cc rfl (p_box bx_59 g0 (od rfl id))
      (ca rfl (m_alloc al_39 nu39)
      (cc rfl (p_assign g0 (oc _)) cn))) (by kernel_rfl) fun a1 w1 gs1 b1 s1 n1 hh1 m1 => ?_
  have z1 := b1
  obtain ⟨g4, rfl, p4, k4⟩ := made1 m1
  have hg4 := hh1 g4 (by simp)
  have s1 := s1.more 4 (y := .val (.pointer (some ⟨g4, 0, none⟩))) p4
  refine wp_seq ?_
  refine flowC mixed (s1.keep (sc 1 rfl (sc 2 rfl (sc 4 rfl (sc 5 rfl sn))))) (by kernel_rfl) (by kernel_rfl) (cc rfl (p_fieldAddr pt59_4 fa_59_4 g0 (od rfl id))
      (cc rfl (p_load1 rfl ld_57 g0 (od rfl id))
      (cc rfl (p_move g0 (od rfl id))
      (cc rfl (p_index ix_57 ei g0 (od rfl id) (od rfl id))
      (cc rfl (p_fieldAddr pt67_1 fa_67_1 g0 (od rfl id))
      (cc rfl (p_loadI ld_3 g0 (od rfl id))
      (cc rfl (p_assign g0 (od rfl id)) cn))))))) fun a2 w2 b2 s2 => ?_
  have z2 := z1.trans (b2.mono z1.size)
  have k4 := k4.below b2 k4.lt
  refine wp_seq ?_
  refine wp_block ?_
  refine wp_seq ?_
  refine flowC mixed (s2.keep (sc 1 rfl (sc 2 rfl (sc 4 rfl (sc 5 rfl (sc 6 rfl sn)))))) (by kernel_rfl) (by kernel_rfl) (cc rfl (p_move g0 (od rfl id))
      (cc rfl (p_bin g0 (od rfl id) (oc _) b_eql_3)
      (cc rfl (p_assign g0 (od rfl id)) cn))) fun a3 w3 b3 s3 => ?_
  have z3 := z2.trans (b3.mono z2.size)
  have k4 := k4.below b3 k4.lt
  refine s3.cond 13 rfl (fun h13 => ?_) (fun h13 => ?_)
  · -- true
    have h0 : o.par = 0 := by simpa using h13
    refine wp_seq ?_
    refine flowR 1 mixed (s3.keep (sc 2 rfl (sc 4 rfl (sc 6 rfl sn)))) (by kernel_rfl) (by kernel_rfl) (cc rfl (p_call 60 g0 (ox (oc _) ox0) (fun _ _ => by kernel_rfl) f60t) cn) fun a4 w4 b4 s4 => ?_
    have z4 := z3.trans (b4.mono z3.size)
    have k4 := k4.below b4 k4.lt
    show wpList _ _ _ (_ :: _) _ _
    refine store_own 4 16 s4 rfl rfl rfl sz_39 rfl rfl k4 rfl (fun _ => .inr (by simp)) nul fun w5 c5 y5 q5 k4 l5 s5 => ?_
    have z5 := q5 _ _ z4 hg4
    refine chainT (t := []) (cc rfl (p_assign g0 (oc _)) cn) (by kernel_rfl) s5 fun a6 w6 b6 s6 => wpList_done ?_
    have z6 := z5.trans (b6.mono z5.size)
    have k4 := k4.below b6 k4.lt
    rw [show homeB c i o = _ from home_0 h0]
    exact wp_ret (ret_cell2 (fn := Try.f118) s6 4 5 rfl rfl rfl Try.underlying39 rfl sz_39 k4 (Lay.mono _ l5 (.of b6) fun _ _ h => h) (fun _ h => Or.inl h) z6)
  · -- false
    have h0 : ¬ o.par = 0 := by simpa using h13
    refine wp_seq ?_
    have hiL : i < c.obs.length := (List.getElem?_eq_some_iff.1 ei).1
    by_cases hpar : 1 ≤ o.par ∧ o.par ≤ (i : Int)
    · -- at
      obtain ⟨j, hj⟩ : ∃ j : Nat, o.par = (j : Int) + 1 := ⟨(o.par - 1).toNat, by omega⟩
      obtain ⟨p, ej⟩ : ∃ p, c.obs[j]? = some p := ⟨_, List.getElem?_eq_getElem (by omega)⟩
      refine wp_region_lit ?_
      refine chainK 8 (cc rfl (p_move g0 (od rfl id))
          (cc rfl (p_bin g0 (od rfl id) (oc _) b_lss_3)
          (cc rfl (p_move g0 (od rfl id))
          (cc rfl (p_move (g1 rfl rfl) (od rfl (fun _ => rfl)))
          (cc rfl (p_move (g1 rfl rfl) (od rfl (fun _ => rfl)))
          (cc rfl (p_bin (g1 rfl rfl) (od rfl id) (od rfl id) b_gtr_3)
          (cc rfl (p_or g0 (od rfl id) (od rfl id))
          (cc rfl (p_move g0 (od rfl id)) cn)))))))) (by kernel_rfl) (s3.keep (sc 1 rfl (sc 2 rfl (sc 4 rfl (sc 5 rfl (sc 6 rfl sn)))))) fun a7 w7 b7 s7 => ?_
      have z7 := z3.trans (b7.mono z3.size)
      have k4 := k4.below b7 k4.lt
      have s7 := s7.more 25 (y := .bool false) (bool_as (s7.get 25 rfl) (by simp; omega))
      refine chainT (t := []) (cc rfl (p_fieldAddr pt59_4 fa_59_4 (g1 rfl rfl) (od rfl (fun _ => rfl)))
          (cc rfl (p_load1 rfl ld_57 (g1 rfl rfl) (od rfl id))
          (cc rfl (p_move (g1 rfl rfl) (od rfl (fun _ => rfl)))
          (cc rfl (p_binE (n' := (j : Int)) (by rw [IntKind.wrap_i64]; omega) (g1 rfl rfl) (od rfl id) (oc _) b_sub_3)
          (cc rfl (p_index ix_57 ej (g1 rfl rfl) (od rfl id) (od rfl id))
          (cc rfl (p_fieldAddr pt67_0 fa_67_0 (g1 rfl rfl) (od rfl id))
          (cc rfl (p_loadI ld_3 (g1 rfl rfl) (od rfl id))
          (cc rfl (p_bin (g1 rfl rfl) (od rfl id) (oc _) b_neq_3)
          (cc rfl (p_or g0 (od rfl id) (od rfl id))
          (cc rfl (p_assign g0 (od rfl id)) cn)))))))))) (by kernel_rfl) s7 fun a8 w8 b8 s8 => wpList_done ?_
      have z8 := z7.trans (b8.mono z7.size)
      have k4 := k4.below b8 k4.lt
      refine s8.cond 17 rfl (fun h17 => ?_) (fun h17 => ?_)
      · -- true
        have hk : ¬ p.k = 1 := by simpa using h17
        refine wp_seq ?_
        refine flowR 1 mixed (s8.keep (sc 2 rfl (sc 4 rfl (sc 6 rfl sn)))) (by kernel_rfl) (by kernel_rfl) (cc rfl (p_done bz39 (y := .st (labL 12) ⟨0, []⟩) (fun _ _ => lab0_on) g0) cn) fun a9 w9 b9 s9 => ?_
        have z9 := z8.trans (b9.mono z8.size)
        have k4 := k4.below b9 k4.lt
        show wpList _ _ _ (_ :: _) _ _
        refine store_own 4 35 s9 rfl rfl rfl sz_39 rfl rfl k4 rfl (fun _ => .inr (by simp)) nul fun w10 c10 y10 q10 k4 l10 s10 => ?_
        have z10 := q10 _ _ z9 hg4
        refine chainT (t := []) (cc rfl (p_assign g0 (oc _)) cn) (by kernel_rfl) s10 fun a11 w11 b11 s11 => wpList_done ?_
        have z11 := z10.trans (b11.mono z10.size)
        have k4 := k4.below b11 k4.lt
        rw [show homeB c i o = _ from (home_at h0 hpar hj ej).trans (if_neg hk)]
        exact wp_ret (ret_cell2 (fn := Try.f118) s11 4 5 rfl rfl rfl Try.underlying39 rfl sz_39 k4 (Lay.mono _ l10 (.of b11) fun _ _ h => h) (fun _ h => Or.inl h) z11)
      · -- false
        have hk : p.k = 1 := by simpa using h17
        refine wp_skip ?_
        refine wp_seq ?_
        refine flowR 7 mixed (s8.keep (sc 2 rfl (sc 4 rfl (sc 6 rfl sn)))) (by kernel_rfl) (by kernel_rfl) (cc rfl (p_fieldAddr pt59_4 fa_59_4 g0 (od rfl id))
            (cc rfl (p_load1 rfl ld_57 g0 (od rfl id))
            (cc rfl (p_move g0 (od rfl id))
            (cc rfl (p_binE (n' := (j : Int)) (by rw [IntKind.wrap_i64]; omega) g0 (od rfl id) (oc _) b_sub_3)
            (cc rfl (p_index ix_57 ej g0 (od rfl id) (od rfl id))
            (cc rfl (p_fieldAddr pt67_2 fa_67_2 g0 (od rfl id))
            (cc rfl (p_load Try.underlying39 rfl sz_39 g0 (od rfl id)) cn))))))) fun a12 w12 b12 s12 => ?_
        have z12 := z8.trans (b12.mono z8.size)
        have k4 := k4.below b12 k4.lt
        show wpList _ _ _ (_ :: _) _ _
        refine store_own 4 42 s12 rfl rfl rfl sz_39 rfl rfl k4 rfl (fun _ => .inr (by simp)) nul fun w13 c13 y13 q13 k4 l13 s13 => ?_
        have z13 := q13 _ _ z12 hg4
        refine chainT (t := []) (cc rfl (p_assign g0 (oc _)) cn) (by kernel_rfl) s13 fun a14 w14 b14 s14 => wpList_done ?_
        have z14 := z13.trans (b14.mono z13.size)
        have k4 := k4.below b14 k4.lt
        rw [show homeB c i o = _ from (home_at h0 hpar hj ej).trans (if_pos hk)]
        exact wp_ret (ret_cell2 (fn := Try.f118) s14 4 5 rfl rfl rfl Try.underlying39 rfl sz_39 k4 (Lay.mono _ l13 (.of b14) fun _ _ h => h) (fun _ h => Or.inl h) z14)
    · -- no
      refine wp_region_lit ?_
      refine chainK 8 (cc rfl (p_move g0 (od rfl id))
          (cc rfl (p_bin g0 (od rfl id) (oc _) b_lss_3)
          (cc rfl (p_move g0 (od rfl id))
          (cc rfl (p_move (g1 rfl rfl) (od rfl (fun _ => rfl)))
          (cc rfl (p_move (g1 rfl rfl) (od rfl (fun _ => rfl)))
          (cc rfl (p_bin (g1 rfl rfl) (od rfl id) (od rfl id) b_gtr_3)
          (cc rfl (p_or g0 (od rfl id) (od rfl id))
          (cc rfl (p_move g0 (od rfl id)) cn)))))))) (by kernel_rfl) (s3.keep (sc 1 rfl (sc 2 rfl (sc 4 rfl (sc 5 rfl (sc 6 rfl sn)))))) fun a15 w15 b15 s15 => ?_
      have z15 := z3.trans (b15.mono z3.size)
      have k4 := k4.below b15 k4.lt
      have s15 := s15.more 25 (y := .bool true) (bool_as (s15.get 25 rfl) (by simp; omega))
      show wpList _ _ _ (_ :: _) _ _
      refine rd_off (.any) s15 (Eq.trans (s15.wanted (g1 rfl rfl) rfl) rfl) rfl (by decide) fun a16 s16 => ?_
      have z16 := z15
      show wpList _ _ _ (_ :: _) _ _
      refine rd_off (.any) s16 (Eq.trans (s16.wanted (g1 rfl rfl) rfl) rfl) rfl (by decide) fun a17 s17 => ?_
      have z17 := z16
      show wpList _ _ _ (_ :: _) _ _
      refine rd_off (.any) s17 (Eq.trans (s17.wanted (g1 rfl rfl) rfl) rfl) rfl (by decide) fun a18 s18 => ?_
      have z18 := z17
      show wpList _ _ _ (_ :: _) _ _
      refine rd_off (.any) s18 (Eq.trans (s18.wanted (g1 rfl rfl) rfl) rfl) rfl (by decide) fun a19 s19 => ?_
      have z19 := z18
      show wpList _ _ _ (_ :: _) _ _
      refine rd_off (.any) s19 (Eq.trans (s19.wanted (g1 rfl rfl) rfl) rfl) rfl (by decide) fun a20 s20 => ?_
      have z20 := z19
      show wpList _ _ _ (_ :: _) _ _
      refine rd_off (.any) s20 (Eq.trans (s20.wanted (g1 rfl rfl) rfl) rfl) rfl (by decide) fun a21 s21 => ?_
      have z21 := z20
      show wpList _ _ _ (_ :: _) _ _
      refine rd_off (.any) s21 (Eq.trans (s21.wanted (g1 rfl rfl) rfl) rfl) rfl (by decide) fun a22 s22 => ?_
      have z22 := z21
      show wpList _ _ _ (_ :: _) _ _
      refine rd_off (.bool true) s22 (Eq.trans (s22.wanted (g1 rfl rfl) rfl) rfl) rfl (by decide) fun a23 s23 => ?_
      have z23 := z22
      refine chainT (t := []) (cc rfl (p_or g0 (od rfl id) (od rfl id))
          (cc rfl (p_assign g0 (od rfl id)) cn)) (by kernel_rfl) s23 fun a24 w24 b24 s24 => wpList_done ?_
      have z24 := z23.trans (b24.mono z23.size)
      have k4 := k4.below b24 k4.lt
      refine s24.cond 17 rfl (fun _ => ?_) (fun h => absurd h (by simp))
      refine wp_seq ?_
      refine flowR 1 mixed (s24.keep (sc 2 rfl (sc 4 rfl (sc 6 rfl sn)))) (by kernel_rfl) (by kernel_rfl) (cc rfl (p_done bz39 (y := .st (labL 12) ⟨0, []⟩) (fun _ _ => lab0_on) g0) cn) fun a25 w25 b25 s25 => ?_
      have z25 := z24.trans (b25.mono z24.size)
      have k4 := k4.below b25 k4.lt
      show wpList _ _ _ (_ :: _) _ _
      refine store_own 4 35 s25 rfl rfl rfl sz_39 rfl rfl k4 rfl (fun _ => .inr (by simp)) nul fun w26 c26 y26 q26 k4 l26 s26 => ?_
      have z26 := q26 _ _ z25 hg4
      refine chainT (t := []) (cc rfl (p_assign g0 (oc _)) cn) (by kernel_rfl) s26 fun a27 w27 b27 s27 => wpList_done ?_
      have z27 := z26.trans (b27.mono z26.size)
      have k4 := k4.below b27 k4.lt
      rw [show homeB c i o = _ from home_no h0 hpar]
      exact wp_ret (ret_cell2 (fn := Try.f118) s27 4 5 rfl rfl rfl Try.underlying39 rfl sz_39 k4 (Lay.mono _ l26 (.of b27) fun _ _ h => h) (fun _ h => Or.inl h) z27)
end Go.Proofs.Ytihddficgpjgpaa.Y
namespace Go.Proofs.Ytihddficgpjgpaa.Y
open Go.RowKit Go.ChangeShapes Go.WideShapes Go.ChangeAt
/-- May it be an object of this configuration? In the code's words. -/
def okB (c : Cf) (i : Nat) (o : Ob) : Bool :=
  if ((!(homeB c i o).2 || !rightB o.lab) || !leqB (homeB c i o).1 (restL o.lab)) = true then false
  else if (o.k == 1) = true then ((((plainB o.lab && decide (0 ≤ o.pg)) && decide (o.pg ≤ 4096)) && decide (0 ≤ o.nm)) && decide (o.nm ≤ 4194304))
  else if (o.k == 2) = true then (((plainB o.lab && decide (0 ≤ o.pg)) && decide (o.pg ≤ 16)) && decide ((o.dat.length : Int) ≤ IntKind.i64.wrap (o.pg * 64)))
  else if (o.k == 4) = true then ((plainB o.lab && mapsB o.mps) && o.mps.all (segB c.obs.length))
  else if (o.k == 3) = true then (((((rightB o.clr && leqB o.lab o.clr) && decide (0 ≤ o.pc)) && decide (o.pc < 262144)) && decide (0 ≤ o.sp)) && decide (o.sp ≤ (c.obs.length : Int)))
  else if (o.k == 5) = true then (((((rightB o.clr && leqB o.lab o.clr) && decide (0 ≤ o.pc)) && decide (o.pc < 262144)) && decide (0 ≤ o.sp)) && decide (o.sp ≤ (c.obs.length : Int)))
  else if (o.k == 6) = true then plainB o.lab
  else false
def okAt (c : Cf) (i : Nat) : Bool := match c.obs[i]? with
  | some o => okB c i o
  | none => true
def sameN (n : Nat) (s : Int × Int) : Bool := !(decide (IntKind.u64.wrap (n : Int) < s.1))
/-- May it be a configuration? In the code's words. -/
def rightC (c : Cf) : Bool :=
  if ((((((((decide (c.co < 1) || decide (4 < c.co)) || decide (c.fr < 1)) || decide (4096 < c.fr)) || decide (c.nm < 0)) || decide (4194302 < c.nm)) || decide ((64 : Int) < (c.obs.length : Int)))) || !slotsB c.sl) = true then false
  else c.sl.all (sameN c.obs.length) && (List.range c.obs.length).all (okAt c)
theorem ok_go {c : Cf} {i : Nat} {o : Ob} (hx : ((List.range i).all (okAt c)) = true) (ei : c.obs[i]? = some o) (h : okB c i o = true) : ((List.range (i + 1)).all (okAt c)) = true := by
  rw [List.range_succ, List.all_append, hx]
  simp [okAt, ei, h]
theorem ok_no {c : Cf} {i : Nat} {o : Ob} (ei : c.obs[i]? = some o) (h : okB c i o = false) : ((List.range c.obs.length).all (okAt c)) = false := by
  rw [List.all_eq_false]
  exact ⟨i, List.mem_range.2 (List.getElem?_eq_some_iff.1 ei).1, by simp [okAt, ei, h]⟩
set_option maxRecDepth 100000 in
theorem f100 {c : Cf} {i : Nat} {o : Ob} (ei : c.obs[i]? = some o) (hL : c.obs.length ≤ 100000) (hm : o.mps.length ≤ maxLen) : Fn True Try.prog 100 [.st cfL c, .int .i64 (i : Int)] (.bool (okB c i o)) := fn2 fun w F v0 v1 h0 h1 hF => by
  go_enter Try.func100, Try.ntmps100
  refine wp_seq ?_
  refine flowC mixed (st0 (U := True) (N := 143) (e := [(0, true, .st cfL c), (1, true, .int .i64 (i : Int))]) (F := F) rfl rfl hF ⟨⟨rfl, h0⟩, ⟨⟨rfl, h1⟩, True.intro⟩⟩) (by kernel_rfl) (by kernel_rfl) (cc rfl (p_box bx_59 g0 (od rfl id))
      (cc rfl (p_assign g0 (oc _)) cn)) fun a1 w1 b1 s1 => ?_
  have z1 := b1
  refine wp_seq ?_
  refine flowQ 6 mixed (s1.keep (sc 1 rfl (sc 2 rfl (sc 4 rfl sn)))) (by kernel_rfl) (by kernel_rfl) (cc rfl (p_fieldAddr pt59_4 fa_59_4 g0 (od rfl id))
      (cc rfl (p_load1 rfl ld_57 g0 (od rfl id))
      (cc rfl (p_move g0 (od rfl id))
      (cc rfl (p_index ix_57 ei g0 (od rfl id) (od rfl id))
      (cc rfl (p_load u_67 ur_67 sz_67 g0 (od rfl id))
      (ca rfl (m_alloc al_67 nu67) cn)))))) (by kernel_rfl) (ss rfl rfl rfl rfl puts_st sz_67 rfl rfl ss0) fun a2 w2 b2 s2 => ?_
  have z2 := z1.trans (b2.mono z1.size)
  refine wp_seq ?_
  refine flowV 8 mixed (s2.keep (sc 1 rfl (sc 2 rfl (sc 4 rfl (sc 5 rfl sn))))) (by kernel_rfl) (cc rfl (p_load u_59 ur_59 sz_59 g0 (od rfl id))
      (cc rfl (p_move g0 (od rfl id))
      (cc rfl (p_call 118 g0 (ox (od rfl id) (ox (od rfl id) ox0)) (fun _ _ => by kernel_rfl) (f118 ei hL))
      (cc rfl (p_move g0 (od rfl id))
      (cc rfl (p_ext0 g0 (od rfl id))
      (cc rfl (p_ext1 g0 (od rfl id))
      (ca rfl (m_alloc al_39 nu39)
      (cs rfl cn)))))))) (sv (m := 7) rfl rfl rfl rfl puts_st sz_39 (puts_nou nul) sv0) (by kernel_rfl) (by kernel_rfl) (by kernel_rfl) fun a3 w3 b3 s3 => ?_
  have z3 := z2.trans (b3.mono z2.size)
  refine chainT (t := []) (cc rfl (p_assign g0 (od rfl id)) cn) (by kernel_rfl) s3 fun a4 w4 b4 s4 => wpList_done ?_
  have z4 := z3.trans (b4.mono z3.size)
  refine wp_seq ?_
  refine wp_seq ?_
  refine flowC mixed (s4.keep (sc 2 rfl (sc 4 rfl (sc 5 rfl (sc 6 rfl (sc 7 rfl sn)))))) (by kernel_rfl) (by kernel_rfl) (cc rfl (p_move g0 (od rfl id))
      (cc rfl (p_not g0 (od rfl id))
      (cc rfl (p_move g0 (od rfl id))
      (cc rfl (p_fieldAddr pt67_2 fa_67_2 (g1 rfl rfl) (od rfl (fun _ => rfl)))
      (cc rfl (p_load Try.underlying39 rfl sz_39 (g1 rfl rfl) (od rfl id))
      (cc rfl (p_call 49 (g1 rfl rfl) (ox (od rfl id) ox0) (fun _ _ => by kernel_rfl) (f49 (by decide)))
      (cc rfl (p_not (g1 rfl rfl) (od rfl id))
      (cc rfl (p_or g0 (od rfl id) (od rfl id))
      (cc rfl (p_move g0 (od rfl id))
      (cc rfl (p_load Try.underlying39 rfl sz_39 (g1 rfl rfl) (od rfl (fun _ => rfl)))
      (cc rfl (p_fieldAddr pt67_2 fa_67_2 (g1 rfl rfl) (od rfl (fun _ => rfl)))
      (cc rfl (p_load Try.underlying39 rfl sz_39 (g1 rfl rfl) (od rfl id))
      (cc rfl (p_call 63 (g1 rfl rfl) (ox (od rfl id) ox0) (fun _ _ => by kernel_rfl) (f63 (by decide)))
      (cc rfl (p_call 57 (g1 rfl rfl) (ox (od rfl id) (ox (od rfl id) ox0)) (fun _ _ => by kernel_rfl) (f57 (by decide)))
      (cc rfl (p_not (g1 rfl rfl) (od rfl id))
      (cc rfl (p_or g0 (od rfl id) (od rfl id)) cn)))))))))))))))) fun a5 w5 b5 s5 => ?_
  have z5 := z4.trans (b5.mono z4.size)
  refine s5.cond 34 rfl (fun h34 => ?_) (fun h34 => ?_)
  · -- true
    refine wp_seq ?_
    refine flowT (s5.keep (sc 2 rfl (sc 4 rfl (sc 5 rfl sn)))) (by kernel_rfl) (cc rfl (p_assign g0 (oc _)) cn) fun a6 w6 b6 s6 => ?_
    have z6 := z5.trans (b6.mono z5.size)
    have s6 := s6.more 4 (y := .bool (okB c i o)) (bool_as (s6.get 4 rfl) (by simp only [okB, h34, if_true]))
    exact wp_ret (ret_tmp (fn := Try.f100) s6 4 rfl rfl (fun _ h => h) z6)
  · -- false
    refine wp_skip ?_
    refine wp_seq ?_
    refine wp_seq ?_
    refine flowC mixed (s5.keep (sc 2 rfl (sc 4 rfl (sc 5 rfl sn)))) (by kernel_rfl) (by kernel_rfl) (cc rfl (p_fieldAddr pt67_0 fa_67_0 g0 (od rfl id))
        (cc rfl (p_loadI ld_3 g0 (od rfl id)) cn)) fun a7 w7 b7 s7 => ?_
    have z7 := z5.trans (b7.mono z5.size)
    refine wp_block ?_
    refine wp_seq ?_
    refine flowC mixed (s7.keep (sc 2 rfl (sc 4 rfl (sc 5 rfl (sc 36 rfl sn))))) (by kernel_rfl) (by kernel_rfl) (cc rfl (p_bin g0 (od rfl id) (oc _) b_eql_3)
        (cc rfl (p_assign g0 (od rfl id)) cn)) fun a8 w8 b8 s8 => ?_
    have z8 := z7.trans (b8.mono z7.size)
    refine s8.cond 37 rfl (fun h37 => ?_) (fun h37 => ?_)
    · -- true
      refine wp_seq ?_
      refine flowT (s8.keep (sc 4 rfl (sc 5 rfl sn))) (by kernel_rfl) (cc rfl (p_fieldAddr pt67_2 fa_67_2 g0 (od rfl id))
          (cc rfl (p_load Try.underlying39 rfl sz_39 g0 (od rfl id))
          (cc rfl (p_call 86 g0 (ox (od rfl id) ox0) (fun _ _ => by kernel_rfl) (f86 (by decide)))
          (cc rfl (p_move g0 (od rfl id))
          (cc rfl (p_fieldAddr pt67_4 fa_67_4 (g1 rfl rfl) (od rfl (fun _ => rfl)))
          (cc rfl (p_loadI ld_3 (g1 rfl rfl) (od rfl id))
          (cc rfl (p_bin (g1 rfl rfl) (od rfl id) (oc _) b_geq_3)
          (cc rfl (p_and g0 (od rfl id) (od rfl id))
          (cc rfl (p_move g0 (od rfl id))
          (cc rfl (p_fieldAddr pt67_4 fa_67_4 (g1 rfl rfl) (od rfl (fun _ => rfl)))
          (cc rfl (p_loadI ld_3 (g1 rfl rfl) (od rfl id))
          (cc rfl (p_bin (g1 rfl rfl) (od rfl id) (oc _) b_leq_3)
          (cc rfl (p_and g0 (od rfl id) (od rfl id))
          (cc rfl (p_move g0 (od rfl id))
          (cc rfl (p_fieldAddr pt67_5 fa_67_5 (g1 rfl rfl) (od rfl (fun _ => rfl)))
          (cc rfl (p_loadI ld_3 (g1 rfl rfl) (od rfl id))
          (cc rfl (p_bin (g1 rfl rfl) (od rfl id) (oc _) b_geq_3)
          (cc rfl (p_and g0 (od rfl id) (od rfl id))
          (cc rfl (p_move g0 (od rfl id))
          (cc rfl (p_fieldAddr pt67_5 fa_67_5 (g1 rfl rfl) (od rfl (fun _ => rfl)))
          (cc rfl (p_loadI ld_3 (g1 rfl rfl) (od rfl id))
          (cc rfl (p_bin (g1 rfl rfl) (od rfl id) (oc _) b_leq_3)
          (cc rfl (p_and g0 (od rfl id) (od rfl id))
          (cc rfl (p_assign g0 (od rfl id)) cn)))))))))))))))))))))))) fun a9 w9 b9 s9 => ?_
      have z9 := z8.trans (b9.mono z8.size)
      have s9 := s9.more 4 (y := .bool (okB c i o)) (bool_as (s9.get 4 rfl) (by simp only [okB, h34, h37, if_true, if_false, Bool.false_eq_true]))
      exact wp_ret (ret_tmp (fn := Try.f100) s9 4 rfl rfl (fun _ h => h) z9)
    · -- false
      refine wp_seq ?_
      refine flowC mixed (s8.keep (sc 2 rfl (sc 4 rfl (sc 5 rfl (sc 36 rfl sn))))) (by kernel_rfl) (by kernel_rfl) (cc rfl (p_bin g0 (od rfl id) (oc _) b_eql_3)
          (cc rfl (p_assign g0 (od rfl id)) cn)) fun a10 w10 b10 s10 => ?_
      have z10 := z8.trans (b10.mono z8.size)
      refine s10.cond 62 rfl (fun h62 => ?_) (fun h62 => ?_)
      · -- true
        refine wp_seq ?_
        refine flowT (s10.keep (sc 4 rfl (sc 5 rfl sn))) (by kernel_rfl) (cc rfl (p_fieldAddr pt67_2 fa_67_2 g0 (od rfl id))
            (cc rfl (p_load Try.underlying39 rfl sz_39 g0 (od rfl id))
            (cc rfl (p_call 86 g0 (ox (od rfl id) ox0) (fun _ _ => by kernel_rfl) (f86 (by decide)))
            (cc rfl (p_move g0 (od rfl id))
            (cc rfl (p_fieldAddr pt67_4 fa_67_4 (g1 rfl rfl) (od rfl (fun _ => rfl)))
            (cc rfl (p_loadI ld_3 (g1 rfl rfl) (od rfl id))
            (cc rfl (p_bin (g1 rfl rfl) (od rfl id) (oc _) b_geq_3)
            (cc rfl (p_and g0 (od rfl id) (od rfl id))
            (cc rfl (p_move g0 (od rfl id))
            (cc rfl (p_fieldAddr pt67_4 fa_67_4 (g1 rfl rfl) (od rfl (fun _ => rfl)))
            (cc rfl (p_loadI ld_3 (g1 rfl rfl) (od rfl id))
            (cc rfl (p_bin (g1 rfl rfl) (od rfl id) (oc _) b_leq_3)
            (cc rfl (p_and g0 (od rfl id) (od rfl id))
            (cc rfl (p_move g0 (od rfl id))
            (cc rfl (p_fieldAddr pt67_6 fa_67_6 (g1 rfl rfl) (od rfl (fun _ => rfl)))
            (cc rfl (p_load1 rfl ld_22 (g1 rfl rfl) (od rfl id))
            (cc rfl (p_len ln_22 (g1 rfl rfl) (od rfl id))
            (cc rfl (p_fieldAddr pt67_4 fa_67_4 (g1 rfl rfl) (od rfl (fun _ => rfl)))
            (cc rfl (p_loadI ld_3 (g1 rfl rfl) (od rfl id))
            (cc rfl (p_bin (g1 rfl rfl) (od rfl id) (oc _) b_mul_3)
            (cc rfl (p_bin (g1 rfl rfl) (od rfl id) (od rfl id) b_leq_3)
            (cc rfl (p_and g0 (od rfl id) (od rfl id))
            (cc rfl (p_assign g0 (od rfl id)) cn))))))))))))))))))))))) fun a11 w11 b11 s11 => ?_
        have z11 := z10.trans (b11.mono z10.size)
        have s11 := s11.more 4 (y := .bool (okB c i o)) (bool_as (s11.get 4 rfl) (by simp only [okB, h34, h37, h62, if_true, if_false, Bool.false_eq_true]))
        exact wp_ret (ret_tmp (fn := Try.f100) s11 4 rfl rfl (fun _ h => h) z11)
      · -- false
        refine wp_seq ?_
        refine flowC mixed (s10.keep (sc 2 rfl (sc 4 rfl (sc 5 rfl (sc 36 rfl sn))))) (by kernel_rfl) (by kernel_rfl) (cc rfl (p_bin g0 (od rfl id) (oc _) b_eql_3)
            (cc rfl (p_assign g0 (od rfl id)) cn)) fun a12 w12 b12 s12 => ?_
        have z12 := z10.trans (b12.mono z10.size)
        refine s12.cond 86 rfl (fun h86 => ?_) (fun h86 => ?_)
        · -- true
          refine wp_seq ?_
          refine flowT (s12.keep (sc 2 rfl (sc 4 rfl (sc 5 rfl sn)))) (by kernel_rfl) (cc rfl (p_fieldAddr pt67_2 fa_67_2 g0 (od rfl id))
              (cc rfl (p_load Try.underlying39 rfl sz_39 g0 (od rfl id))
              (cc rfl (p_call 86 g0 (ox (od rfl id) ox0) (fun _ _ => by kernel_rfl) (f86 (by decide)))
              (cc rfl (p_move g0 (od rfl id))
              (cc rfl (p_fieldAddr pt67_7 fa_67_7 (g1 rfl rfl) (od rfl (fun _ => rfl)))
              (cc rfl (p_load1 rfl ld_65 (g1 rfl rfl) (od rfl id))
              (cc rfl (p_call 119 (g1 rfl rfl) (ox (od rfl id) ox0) (fun _ _ => by kernel_rfl) (f119 hm))
              (cc rfl (p_and g0 (od rfl id) (od rfl id))
              (cc rfl (p_move g0 (od rfl id))
              (cc rfl (p_load u_59 ur_59 sz_59 (g1 rfl rfl) (od rfl (fun _ => rfl)))
              (cc rfl (p_fieldAddr pt67_7 fa_67_7 (g1 rfl rfl) (od rfl (fun _ => rfl)))
              (cc rfl (p_load1 rfl ld_65 (g1 rfl rfl) (od rfl id))
              (cc rfl (p_call 120 (g1 rfl rfl) (ox (od rfl id) (ox (od rfl id) ox0)) (fun _ _ => by kernel_rfl) (f120 hm))
              (cc rfl (p_and g0 (od rfl id) (od rfl id))
              (cc rfl (p_assign g0 (od rfl id)) cn))))))))))))))) fun a13 w13 b13 s13 => ?_
          have z13 := z12.trans (b13.mono z12.size)
          have s13 := s13.more 4 (y := .bool (okB c i o)) (bool_as (s13.get 4 rfl) (by simp only [okB, h34, h37, h62, h86, if_true, if_false, Bool.false_eq_true]))
          exact wp_ret (ret_tmp (fn := Try.f100) s13 4 rfl rfl (fun _ h => h) z13)
        · -- false
          refine wp_seq ?_
          refine wp_seq ?_
          refine flowC mixed (s12.keep (sc 2 rfl (sc 4 rfl (sc 5 rfl (sc 36 rfl sn))))) (by kernel_rfl) (by kernel_rfl) (cc rfl (p_bin g0 (od rfl id) (oc _) b_eql_3)
              (cc rfl (p_assign g0 (od rfl id)) cn)) fun a14 w14 b14 s14 => ?_
          have z14 := z12.trans (b14.mono z12.size)
          refine s14.cond 102 rfl (fun h102 => ?_) (fun h102 => ?_)
          · -- true
            refine wp_skip ?_
            refine s14.cond 102 rfl (fun _ => ?_) (fun h => absurd h (by rw [h102]; simp))
            refine wp_seq ?_
            refine flowT (s14.keep (sc 2 rfl (sc 4 rfl (sc 5 rfl sn)))) (by kernel_rfl) (cc rfl (p_fieldAddr pt67_3 fa_67_3 g0 (od rfl id))
                (cc rfl (p_load Try.underlying39 rfl sz_39 g0 (od rfl id))
                (cc rfl (p_call 49 g0 (ox (od rfl id) ox0) (fun _ _ => by kernel_rfl) (f49 (by decide)))
                (cc rfl (p_move g0 (od rfl id))
                (cc rfl (p_fieldAddr pt67_2 fa_67_2 (g1 rfl rfl) (od rfl (fun _ => rfl)))
                (cc rfl (p_load Try.underlying39 rfl sz_39 (g1 rfl rfl) (od rfl id))
                (cc rfl (p_fieldAddr pt67_3 fa_67_3 (g1 rfl rfl) (od rfl (fun _ => rfl)))
                (cc rfl (p_load Try.underlying39 rfl sz_39 (g1 rfl rfl) (od rfl id))
                (cc rfl (p_call 57 (g1 rfl rfl) (ox (od rfl id) (ox (od rfl id) ox0)) (fun _ _ => by kernel_rfl) (f57 (by decide)))
                (cc rfl (p_and g0 (od rfl id) (od rfl id))
                (cc rfl (p_move g0 (od rfl id))
                (cc rfl (p_fieldAddr pt67_9 fa_67_9 (g1 rfl rfl) (od rfl (fun _ => rfl)))
                (cc rfl (p_loadI ld_3 (g1 rfl rfl) (od rfl id))
                (cc rfl (p_bin (g1 rfl rfl) (od rfl id) (oc _) b_geq_3)
                (cc rfl (p_and g0 (od rfl id) (od rfl id))
                (cc rfl (p_move g0 (od rfl id))
                (cc rfl (p_fieldAddr pt67_9 fa_67_9 (g1 rfl rfl) (od rfl (fun _ => rfl)))
                (cc rfl (p_loadI ld_3 (g1 rfl rfl) (od rfl id))
                (cc rfl (p_bin (g1 rfl rfl) (od rfl id) (oc _) b_lss_3)
                (cc rfl (p_and g0 (od rfl id) (od rfl id))
                (cc rfl (p_move g0 (od rfl id))
                (cc rfl (p_fieldAddr pt67_8 fa_67_8 (g1 rfl rfl) (od rfl (fun _ => rfl)))
                (cc rfl (p_loadI ld_3 (g1 rfl rfl) (od rfl id))
                (cc rfl (p_bin (g1 rfl rfl) (od rfl id) (oc _) b_geq_3)
                (cc rfl (p_and g0 (od rfl id) (od rfl id))
                (cc rfl (p_move g0 (od rfl id))
                (cc rfl (p_fieldAddr pt67_8 fa_67_8 (g1 rfl rfl) (od rfl (fun _ => rfl)))
                (cc rfl (p_loadI ld_3 (g1 rfl rfl) (od rfl id))
                (cc rfl (p_fieldAddr pt59_4 fa_59_4 (g1 rfl rfl) (od rfl (fun _ => rfl)))
                (cc rfl (p_load1 rfl ld_57 (g1 rfl rfl) (od rfl id))
                (cc rfl (p_len ln_57 (g1 rfl rfl) (od rfl id))
                (cc rfl (p_bin (g1 rfl rfl) (od rfl id) (od rfl id) b_leq_3)
                (cc rfl (p_and g0 (od rfl id) (od rfl id))
                (cc rfl (p_assign g0 (od rfl id)) cn)))))))))))))))))))))))))))))))))) fun a15 w15 b15 s15 => ?_
            have z15 := z14.trans (b15.mono z14.size)
            have s15 := s15.more 4 (y := .bool (okB c i o)) (bool_as (s15.get 4 rfl) (by simp only [okB, h34, h37, h62, h86, h102, if_true, if_false, Bool.false_eq_true]))
            exact wp_ret (ret_tmp (fn := Try.f100) s15 4 rfl rfl (fun _ h => h) z15)
          · -- false
            refine flowT (s14.keep (sc 2 rfl (sc 4 rfl (sc 5 rfl (sc 36 rfl (sc 102 rfl sn)))))) (by kernel_rfl) (cc rfl (p_bin g0 (od rfl id) (oc _) b_eql_3)
                (cc rfl (p_assign g0 (od rfl id)) cn)) fun a16 w16 b16 s16 => ?_
            have z16 := z14.trans (b16.mono z14.size)
            refine s16.cond 102 rfl (fun h103 => ?_) (fun h103 => ?_)
            · -- true
              refine wp_seq ?_
              refine flowT (s16.keep (sc 2 rfl (sc 4 rfl (sc 5 rfl sn)))) (by kernel_rfl) (cc rfl (p_fieldAddr pt67_3 fa_67_3 g0 (od rfl id))
                  (cc rfl (p_load Try.underlying39 rfl sz_39 g0 (od rfl id))
                  (cc rfl (p_call 49 g0 (ox (od rfl id) ox0) (fun _ _ => by kernel_rfl) (f49 (by decide)))
                  (cc rfl (p_move g0 (od rfl id))
                  (cc rfl (p_fieldAddr pt67_2 fa_67_2 (g1 rfl rfl) (od rfl (fun _ => rfl)))
                  (cc rfl (p_load Try.underlying39 rfl sz_39 (g1 rfl rfl) (od rfl id))
                  (cc rfl (p_fieldAddr pt67_3 fa_67_3 (g1 rfl rfl) (od rfl (fun _ => rfl)))
                  (cc rfl (p_load Try.underlying39 rfl sz_39 (g1 rfl rfl) (od rfl id))
                  (cc rfl (p_call 57 (g1 rfl rfl) (ox (od rfl id) (ox (od rfl id) ox0)) (fun _ _ => by kernel_rfl) (f57 (by decide)))
                  (cc rfl (p_and g0 (od rfl id) (od rfl id))
                  (cc rfl (p_move g0 (od rfl id))
                  (cc rfl (p_fieldAddr pt67_9 fa_67_9 (g1 rfl rfl) (od rfl (fun _ => rfl)))
                  (cc rfl (p_loadI ld_3 (g1 rfl rfl) (od rfl id))
                  (cc rfl (p_bin (g1 rfl rfl) (od rfl id) (oc _) b_geq_3)
                  (cc rfl (p_and g0 (od rfl id) (od rfl id))
                  (cc rfl (p_move g0 (od rfl id))
                  (cc rfl (p_fieldAddr pt67_9 fa_67_9 (g1 rfl rfl) (od rfl (fun _ => rfl)))
                  (cc rfl (p_loadI ld_3 (g1 rfl rfl) (od rfl id))
                  (cc rfl (p_bin (g1 rfl rfl) (od rfl id) (oc _) b_lss_3)
                  (cc rfl (p_and g0 (od rfl id) (od rfl id))
                  (cc rfl (p_move g0 (od rfl id))
                  (cc rfl (p_fieldAddr pt67_8 fa_67_8 (g1 rfl rfl) (od rfl (fun _ => rfl)))
                  (cc rfl (p_loadI ld_3 (g1 rfl rfl) (od rfl id))
                  (cc rfl (p_bin (g1 rfl rfl) (od rfl id) (oc _) b_geq_3)
                  (cc rfl (p_and g0 (od rfl id) (od rfl id))
                  (cc rfl (p_move g0 (od rfl id))
                  (cc rfl (p_fieldAddr pt67_8 fa_67_8 (g1 rfl rfl) (od rfl (fun _ => rfl)))
                  (cc rfl (p_loadI ld_3 (g1 rfl rfl) (od rfl id))
                  (cc rfl (p_fieldAddr pt59_4 fa_59_4 (g1 rfl rfl) (od rfl (fun _ => rfl)))
                  (cc rfl (p_load1 rfl ld_57 (g1 rfl rfl) (od rfl id))
                  (cc rfl (p_len ln_57 (g1 rfl rfl) (od rfl id))
                  (cc rfl (p_bin (g1 rfl rfl) (od rfl id) (od rfl id) b_leq_3)
                  (cc rfl (p_and g0 (od rfl id) (od rfl id))
                  (cc rfl (p_assign g0 (od rfl id)) cn)))))))))))))))))))))))))))))))))) fun a17 w17 b17 s17 => ?_
              have z17 := z16.trans (b17.mono z16.size)
              have s17 := s17.more 4 (y := .bool (okB c i o)) (bool_as (s17.get 4 rfl) (by simp only [okB, h34, h37, h62, h86, h102, h103, if_true, if_false, Bool.false_eq_true]))
              exact wp_ret (ret_tmp (fn := Try.f100) s17 4 rfl rfl (fun _ h => h) z17)
            · -- false
              refine wp_seq ?_
              refine flowC mixed (s16.keep (sc 4 rfl (sc 5 rfl (sc 36 rfl sn)))) (by kernel_rfl) (by kernel_rfl) (cc rfl (p_bin g0 (od rfl id) (oc _) b_eql_3)
                  (cc rfl (p_assign g0 (od rfl id)) cn)) fun a18 w18 b18 s18 => ?_
              have z18 := z16.trans (b18.mono z16.size)
              refine s18.cond 138 rfl (fun h138 => ?_) (fun h138 => ?_)
              · -- true
                refine wp_seq ?_
                refine flowT (s18.keep (sc 4 rfl (sc 5 rfl sn))) (by kernel_rfl) (cc rfl (p_fieldAddr pt67_2 fa_67_2 g0 (od rfl id))
                    (cc rfl (p_load Try.underlying39 rfl sz_39 g0 (od rfl id))
                    (cc rfl (p_call 86 g0 (ox (od rfl id) ox0) (fun _ _ => by kernel_rfl) (f86 (by decide)))
                    (cc rfl (p_assign g0 (od rfl id)) cn)))) fun a19 w19 b19 s19 => ?_
                have z19 := z18.trans (b19.mono z18.size)
                have s19 := s19.more 4 (y := .bool (okB c i o)) (bool_as (s19.get 4 rfl) (by simp only [okB, h34, h37, h62, h86, h102, h103, h138, if_true, if_false, Bool.false_eq_true]))
                exact wp_ret (ret_tmp (fn := Try.f100) s19 4 rfl rfl (fun _ h => h) z19)
              · -- false
                refine wp_skip ?_
                refine wp_seq ?_
                refine flowT (s18.keep (sc 4 rfl sn)) (by kernel_rfl) (cc rfl (p_assign g0 (oc _)) cn) fun a20 w20 b20 s20 => ?_
                have z20 := z18.trans (b20.mono z18.size)
                have s20 := s20.more 4 (y := .bool (okB c i o)) (bool_as (s20.get 4 rfl) (by simp only [okB, h34, h37, h62, h86, h102, h103, h138, if_false, Bool.false_eq_true]))
                exact wp_ret (ret_tmp (fn := Try.f100) s20 4 rfl rfl (fun _ h => h) z20)
end Go.Proofs.Ytihddficgpjgpaa.Y
namespace Go.Proofs.Ytihddficgpjgpaa.Y
open Go.RowKit Go.ChangeShapes Go.WideShapes Go.ChangeAt
set_option maxRecDepth 100000 in
theorem f46 {c : Cf} (hL : c.obs.length ≤ 100000) (hsl : c.sl.length ≤ maxLen) (hms : ∀ o ∈ c.obs, o.mps.length ≤ maxLen) : Fn True Try.prog 46 [.st cfL c] (.bool (rightC c)) := fn1 fun w F v0 h0 hF => by
  have hsl0 : c.sl.length ≤ 9223372036854775807 := hsl
  go_enter Try.func46, Try.ntmps46
  refine wp_seq ?_
  refine flowC mixed (st0 (U := True) (N := 72) (e := [(0, true, .st cfL c)]) (F := F) rfl rfl hF ⟨⟨rfl, h0⟩, True.intro⟩) (by kernel_rfl) (by kernel_rfl) (cc rfl (p_box bx_59 g0 (od rfl id))
      (cc rfl (p_assign g0 (oc _)) cn)) fun a1 w1 b1 s1 => ?_
  have z1 := b1
  refine wp_seq ?_
  refine wp_seq ?_
  refine flowC mixed (s1.keep (sc 1 rfl (sc 2 rfl sn))) (by kernel_rfl) (by kernel_rfl) (cc rfl (p_fieldAddr pt59_0 fa_59_0 g0 (od rfl id))
      (cc rfl (p_loadI ld_3 g0 (od rfl id))
      (cc rfl (p_bin g0 (od rfl id) (oc _) b_lss_3)
      (cc rfl (p_move g0 (od rfl id))
      (cc rfl (p_fieldAddr pt59_0 fa_59_0 (g1 rfl rfl) (od rfl (fun _ => rfl)))
      (cc rfl (p_loadI ld_3 (g1 rfl rfl) (od rfl id))
      (cc rfl (p_bin (g1 rfl rfl) (od rfl id) (oc _) b_gtr_3)
      (cc rfl (p_or g0 (od rfl id) (od rfl id))
      (cc rfl (p_move g0 (od rfl id))
      (cc rfl (p_fieldAddr pt59_1 fa_59_1 (g1 rfl rfl) (od rfl (fun _ => rfl)))
      (cc rfl (p_loadI ld_3 (g1 rfl rfl) (od rfl id))
      (cc rfl (p_bin (g1 rfl rfl) (od rfl id) (oc _) b_lss_3)
      (cc rfl (p_or g0 (od rfl id) (od rfl id))
      (cc rfl (p_move g0 (od rfl id))
      (cc rfl (p_fieldAddr pt59_1 fa_59_1 (g1 rfl rfl) (od rfl (fun _ => rfl)))
      (cc rfl (p_loadI ld_3 (g1 rfl rfl) (od rfl id))
      (cc rfl (p_bin (g1 rfl rfl) (od rfl id) (oc _) b_gtr_3)
      (cc rfl (p_or g0 (od rfl id) (od rfl id))
      (cc rfl (p_move g0 (od rfl id))
      (cc rfl (p_fieldAddr pt59_2 fa_59_2 (g1 rfl rfl) (od rfl (fun _ => rfl)))
      (cc rfl (p_loadI ld_3 (g1 rfl rfl) (od rfl id))
      (cc rfl (p_bin (g1 rfl rfl) (od rfl id) (oc _) b_lss_3)
      (cc rfl (p_or g0 (od rfl id) (od rfl id))
      (cc rfl (p_move g0 (od rfl id))
      (cc rfl (p_fieldAddr pt59_2 fa_59_2 (g1 rfl rfl) (od rfl (fun _ => rfl)))
      (cc rfl (p_loadI ld_3 (g1 rfl rfl) (od rfl id))
      (cc rfl (p_bin (g1 rfl rfl) (od rfl id) (oc _) b_gtr_3)
      (cc rfl (p_or g0 (od rfl id) (od rfl id))
      (cc rfl (p_move g0 (od rfl id))
      (cc rfl (p_fieldAddr pt59_4 fa_59_4 (g1 rfl rfl) (od rfl (fun _ => rfl)))
      (cc rfl (p_load1 rfl ld_57 (g1 rfl rfl) (od rfl id))
      (cc rfl (p_len ln_57 (g1 rfl rfl) (od rfl id))
      (cc rfl (p_bin (g1 rfl rfl) (od rfl id) (oc _) b_gtr_3)
      (cc rfl (p_or g0 (od rfl id) (od rfl id))
      (cc rfl (p_move g0 (od rfl id))
      (cc rfl (p_fieldAddr pt59_3 fa_59_3 (g1 rfl rfl) (od rfl (fun _ => rfl)))
      (cc rfl (p_load1 rfl ld_53 (g1 rfl rfl) (od rfl id))
      (cc rfl (p_call 99 (g1 rfl rfl) (ox (od rfl id) ox0) (fun _ _ => by kernel_rfl) (f99 hsl))
      (cc rfl (p_not (g1 rfl rfl) (od rfl id))
      (cc rfl (p_or g0 (od rfl id) (od rfl id)) cn)))))))))))))))))))))))))))))))))))))))) fun a2 w2 b2 s2 => ?_
  have z2 := z1.trans (b2.mono z1.size)
  refine s2.cond 45 rfl (fun h45 => ?_) (fun h45 => ?_)
  · -- true
    refine wp_seq ?_
    refine flowT (s2.keep (sc 1 rfl (sc 2 rfl sn))) (by kernel_rfl) (cc rfl (p_assign g0 (oc _)) cn) fun a3 w3 b3 s3 => ?_
    have z3 := z2.trans (b3.mono z2.size)
    have s3 := s3.more 2 (y := .bool (rightC c)) (bool_as (s3.get 2 rfl) (by unfold rightC; rw [if_pos h45]))
    exact wp_ret (ret_tmp (fn := Try.f46) s3 2 rfl rfl (fun _ h => h) z3)
  · -- false
    refine wp_skip ?_
    refine wp_seq ?_
    refine wp_seq ?_
    refine flowC mixed (s2.keep (sc 1 rfl (sc 2 rfl sn))) (by kernel_rfl) (by kernel_rfl) (cc rfl (p_fieldAddr pt59_3 fa_59_3 g0 (od rfl id))
        (cc rfl (p_load1 rfl ld_53 g0 (od rfl id))
        (cc rfl (p_len ln_53 g0 (od rfl id))
        (cc rfl (p_move g0 (oc _)) cn)))) fun a4 w4 b4 s4 => ?_
    have z4 := z2.trans (b4.mono z2.size)
    refine wp_block ?_
    refine wp_range c.sl.length 49 (fun i => []) (fun i w => (c.sl.take i).all (sameN c.obs.length) = true) (s4.keep (sc 49 rfl (sc 1 rfl (sc 2 rfl (sc 47 rfl (sc 48 rfl sn)))))) z4 (by simp) fun i a5 w5 hi1 s5 z5 x5 => ?_
    refine wp_seq ?_
    refine flowC mixed (s5.keep (sc 1 rfl (sc 2 rfl (sc 47 rfl (sc 48 rfl (sc 49 rfl sn)))))) (by kernel_rfl) (by kernel_rfl) (cc rfl (p_bin g0 (od rfl id) (od rfl id) b_lss_3) cn) fun a6 w6 b6 s6 => ?_
    have z6 := z5.trans (b6.mono z5.size)
    refine wp_seq ?_
    refine s6.cond 50 rfl (fun h => ?_) (fun h => ?_)
    · -- true
      have hlt1 : i < c.sl.length := by simpa using h
      obtain ⟨ce, ece⟩ : ∃ x, c.sl[i]? = some x := ⟨_, List.getElem?_eq_getElem hlt1⟩
      refine wp_skip ?_
      refine wp_seq ?_
      refine wp_block ?_
      refine wp_seq ?_
      refine flowQ 3 mixed (s6.keep (sc 1 rfl (sc 2 rfl (sc 47 rfl (sc 48 rfl (sc 49 rfl (sc 50 rfl sn))))))) (by kernel_rfl) (by kernel_rfl) (cc rfl (p_index ix_53 ece g0 (od rfl id) (od rfl id))
          (cc rfl (p_load u_64 ur_64 sz_64 g0 (od rfl id))
          (ca rfl (m_alloc al_64 nu64) cn))) (by kernel_rfl) (ss rfl rfl rfl rfl puts_st sz_64 rfl rfl ss0) fun a7 w7 b7 s7 => ?_
      have z7 := z6.trans (b7.mono z6.size)
      refine wp_seq ?_
      refine flowC mixed (s7.keep (sc 1 rfl (sc 2 rfl (sc 4 rfl (sc 47 rfl (sc 48 rfl (sc 49 rfl (sc 50 rfl (sc 51 rfl (sc 52 rfl sn)))))))))) (by kernel_rfl) (by kernel_rfl) (cc rfl (p_fieldAddr pt64_0 fa_64_0 g0 (od rfl id))
          (cc rfl (p_loadI ld_23 g0 (od rfl id))
          (cc rfl (p_fieldAddr pt59_4 fa_59_4 g0 (od rfl id))
          (cc rfl (p_load1 rfl ld_57 g0 (od rfl id))
          (cc rfl (p_len ln_57 g0 (od rfl id))
          (cc rfl (p_conv g0 (od rfl id) cv_3_23)
          (cc rfl (p_bin g0 (od rfl id) (od rfl id) b_gtr_23) cn))))))) fun a8 w8 b8 s8 => ?_
      have z8 := z7.trans (b8.mono z7.size)
      refine s8.cond 59 rfl (fun h59 => ?_) (fun h59 => ?_)
      · -- true
        refine wp_seq ?_
        refine flowT (s8.keep (sc 1 rfl (sc 2 rfl (sc 4 rfl (sc 47 rfl (sc 48 rfl (sc 49 rfl (sc 50 rfl (sc 51 rfl (sc 52 rfl (sc 53 rfl (sc 54 rfl (sc 55 rfl (sc 56 rfl (sc 57 rfl (sc 58 rfl (sc 59 rfl sn))))))))))))))))) (by kernel_rfl) (cc rfl (p_assign g0 (oc _)) cn) fun a9 w9 b9 s9 => ?_
        have z9 := z8.trans (b9.mono z8.size)
        have s9 := s9.more 2 (y := .bool (rightC c)) (bool_as (s9.get 2 rfl) (by unfold rightC; rw [if_neg (by rw [h45]; simp), all_no ece (show sameN c.obs.length ce = false from not_of h59)]; rfl))
        exact wp_ret (ret_tmp (fn := Try.f46) s9 2 rfl rfl (fun _ h => h) z9)
      · -- false
        refine wp_skip ?_
        refine flowT (s8.keep (sc 1 rfl (sc 2 rfl (sc 4 rfl (sc 47 rfl (sc 48 rfl (sc 49 rfl (sc 50 rfl (sc 51 rfl (sc 52 rfl (sc 53 rfl (sc 54 rfl (sc 55 rfl (sc 56 rfl (sc 57 rfl (sc 58 rfl (sc 59 rfl sn))))))))))))))))) (by kernel_rfl) (cc rfl (p_bin g0 (od rfl id) (oc _) (inc_3 (by omega)))
            (cc rfl (p_move g0 (od rfl id)) cn)) fun a10 w10 b10 s10 => ?_
        have z10 := z8.trans (b10.mono z8.size)
        exact ⟨hlt1, s10.to _ ⟨rfl, rfl, rfl, rfl, rfl, True.intro⟩, z10, all_go x5 ece (not_on h59)⟩
    · -- false
      obtain rfl : i = c.sl.length := by have := of_decide_eq_false h; (try dsimp only at this); omega
      have hx1 := x5
      rw [List.take_length] at hx1
      refine wp_exit ?_
      refine wp_seq ?_
      refine wp_seq ?_
      refine flowC mixed (s6.keep (sc 1 rfl (sc 2 rfl (sc 47 rfl (sc 48 rfl (sc 49 rfl sn)))))) (by kernel_rfl) (by kernel_rfl) (cc rfl (p_fieldAddr pt59_4 fa_59_4 g0 (od rfl id))
          (cc rfl (p_load1 rfl ld_57 g0 (od rfl id))
          (cc rfl (p_len ln_57 g0 (od rfl id))
          (cc rfl (p_move g0 (oc _)) cn)))) fun a11 w11 b11 s11 => ?_
      have z11 := z6.trans (b11.mono z6.size)
      refine wp_block ?_
      refine wp_range c.obs.length 64 (fun i => []) (fun i w => (List.range i).all (okAt c) = true) (s11.keep (sc 64 rfl (sc 1 rfl (sc 2 rfl (sc 47 rfl (sc 48 rfl (sc 49 rfl (sc 63 rfl sn)))))))) z11 (by rfl) fun i a12 w12 hi2 s12 z12 x12 => ?_
      refine wp_seq ?_
      refine flowC mixed (s12.keep (sc 1 rfl (sc 2 rfl (sc 47 rfl (sc 48 rfl (sc 49 rfl (sc 63 rfl (sc 64 rfl sn)))))))) (by kernel_rfl) (by kernel_rfl) (cc rfl (p_bin g0 (od rfl id) (od rfl id) b_lss_3) cn) fun a13 w13 b13 s13 => ?_
      have z13 := z12.trans (b13.mono z12.size)
      refine wp_seq ?_
      refine s13.cond 65 rfl (fun h => ?_) (fun h => ?_)
      · -- true
        have hlt2 : i < c.obs.length := by simpa using h
        obtain ⟨o, eo⟩ : ∃ x, c.obs[i]? = some x := ⟨_, List.getElem?_eq_getElem hlt2⟩
        refine wp_skip ?_
        refine wp_seq ?_
        refine wp_block ?_
        refine wp_seq ?_
        refine flowC mixed (s13.keep (sc 1 rfl (sc 2 rfl (sc 47 rfl (sc 48 rfl (sc 49 rfl (sc 63 rfl (sc 64 rfl (sc 65 rfl sn))))))))) (by kernel_rfl) (by kernel_rfl) (cc rfl (p_move g0 (od rfl id))
            (cc rfl (p_assign g0 (od rfl id)) cn)) fun a14 w14 b14 s14 => ?_
        have z14 := z13.trans (b14.mono z13.size)
        refine wp_seq ?_
        refine flowC mixed (s14.keep (sc 1 rfl (sc 2 rfl (sc 5 rfl (sc 47 rfl (sc 48 rfl (sc 49 rfl (sc 63 rfl (sc 64 rfl (sc 65 rfl (sc 66 rfl sn))))))))))) (by kernel_rfl) (by kernel_rfl) (cc rfl (p_load u_59 ur_59 sz_59 g0 (od rfl id))
            (cc rfl (p_move g0 (od rfl id))
            (cc rfl (p_call 100 g0 (ox (od rfl id) (ox (od rfl id) ox0)) (fun _ _ => by kernel_rfl) (f100 eo hL (hms o (List.mem_of_getElem? eo))))
            (cc rfl (p_not g0 (od rfl id)) cn)))) fun a15 w15 b15 s15 => ?_
        have z15 := z14.trans (b15.mono z14.size)
        refine s15.cond 70 rfl (fun h70 => ?_) (fun h70 => ?_)
        · -- true
          refine wp_seq ?_
          refine flowT (s15.keep (sc 1 rfl (sc 2 rfl (sc 5 rfl (sc 47 rfl (sc 48 rfl (sc 49 rfl (sc 63 rfl (sc 64 rfl (sc 65 rfl (sc 66 rfl (sc 67 rfl (sc 68 rfl (sc 69 rfl (sc 70 rfl sn))))))))))))))) (by kernel_rfl) (cc rfl (p_assign g0 (oc _)) cn) fun a16 w16 b16 s16 => ?_
          have z16 := z15.trans (b16.mono z15.size)
          have s16 := s16.more 2 (y := .bool (rightC c)) (bool_as (s16.get 2 rfl) (by unfold rightC; rw [if_neg (by rw [h45]; simp), ok_no eo (by simpa using h70), Bool.and_false]))
          exact wp_ret (ret_tmp (fn := Try.f46) s16 2 rfl rfl (fun _ h => h) z16)
        · -- false
          refine wp_skip ?_
          refine flowT (s15.keep (sc 1 rfl (sc 2 rfl (sc 5 rfl (sc 47 rfl (sc 48 rfl (sc 49 rfl (sc 63 rfl (sc 64 rfl (sc 65 rfl (sc 66 rfl (sc 67 rfl (sc 68 rfl (sc 69 rfl (sc 70 rfl sn))))))))))))))) (by kernel_rfl) (cc rfl (p_bin g0 (od rfl id) (oc _) (inc_3 (by omega)))
              (cc rfl (p_move g0 (od rfl id)) cn)) fun a17 w17 b17 s17 => ?_
          have z17 := z15.trans (b17.mono z15.size)
          exact ⟨hlt2, s17.to _ ⟨rfl, rfl, rfl, rfl, rfl, rfl, rfl, True.intro⟩, z17, ok_go x12 eo (by simpa using h70)⟩
      · -- false
        obtain rfl : i = c.obs.length := by have := of_decide_eq_false h; (try dsimp only at this); omega
        refine wp_exit ?_
        refine wp_seq ?_
        refine flowT (s13.keep (sc 1 rfl (sc 2 rfl (sc 47 rfl (sc 48 rfl (sc 49 rfl (sc 63 rfl (sc 64 rfl sn)))))))) (by kernel_rfl) (cc rfl (p_assign g0 (oc _)) cn) fun a18 w18 b18 s18 => ?_
        have z18 := z13.trans (b18.mono z13.size)
        have s18 := s18.more 2 (y := .bool (rightC c)) (bool_as (s18.get 2 rfl) (by unfold rightC; have hx := x12; rw [if_neg (by rw [h45]; simp), hx1, hx]; rfl))
        exact wp_ret (ret_tmp (fn := Try.f46) s18 2 rfl rfl (fun _ h => h) z18)
end Go.Proofs.Ytihddficgpjgpaa.Y
namespace Go.Proofs.Ytihddficgpjgpaa.Y
open Go.RowKit Go.ChangeShapes Go.WideShapes Go.ChangeAt
section
variable {d : Nat} {t : TypeId} {p : String} {af : Array Edge} {g : Option (Nat × Bool)} {x x2 : Operand}
theorem b_lss_23 {a b : Int} : Run2 Try.prog ⟨some d, .binOp .lss 23 x x2 23, t, p, af, g⟩ x x2 (.int .u64 a) (.int .u64 b) (.bool (decide (a < b))) := fun ev w h1 h2 => by go_simp
theorem b_leq_23 {a b : Int} : Run2 Try.prog ⟨some d, .binOp .leq 23 x x2 23, t, p, af, g⟩ x x2 (.int .u64 a) (.int .u64 b) (.bool (decide (a ≤ b))) := fun ev w h1 h2 => by go_simp
end
/-- May it not follow there, by the document? -/
def refM (n : Nat) (e : Int) (m : M) : Bool := ((((((decide (m.nn < 1) || decide (16 < m.nn)) || decide (m.pa < e)) || decide (IntKind.i64.wrap (4096 - m.nn) < m.pa)) || decide (m.fr < 0)) || decide (IntKind.i64.wrap (16 - m.nn) < m.fr)) || decide (m.sg < 1)) || decide (IntKind.u64.wrap (n : Int) < m.sg)
def refFrom (n : Nat) : Int → List M → Bool
  | _, [] => true
  | e, m :: t => !refM n e m && refFrom n (m.pa + m.nn) t
def refMaps (n : Nat) (l : List M) : Bool := refFrom n 0 l && decide ((l.length : Int) ≤ 16)
theorem refM_bd {n : Nat} {e : Int} {m : M} (he : 0 ≤ e) (h : refM n e m = false) : 0 ≤ m.pa + m.nn ∧ IntKind.i64.wrap (m.pa + m.nn) = m.pa + m.nn := by
  unfold refM at h
  simp only [Bool.or_eq_false_iff, decide_eq_false_iff_not] at h
  obtain ⟨⟨⟨⟨⟨⟨⟨h1, h2⟩, h3⟩, h4⟩, _⟩, _⟩, _⟩, _⟩ := h
  rw [IntKind.wrap_i64] at h4 ⊢
  omega
theorem ref_go {n : Nat} {l : List M} {i : Nat} {m : M} (hx : refFrom n 0 l = refFrom n (endAt l i) (l.drop i) ∧ 0 ≤ endAt l i) (hm : l[i]? = some m) (h : refM n (endAt l i) m = false) : refFrom n 0 l = refFrom n (endAt l (i + 1)) (l.drop (i + 1)) ∧ 0 ≤ endAt l (i + 1) := by
  rw [end_succ hm]
  refine ⟨?_, (refM_bd hx.2 h).1⟩
  rw [hx.1, drop_at hm, refFrom, h]
  rfl
theorem ref_bad {n : Nat} {l : List M} {i : Nat} {m : M} (hx : refFrom n 0 l = refFrom n (endAt l i) (l.drop i) ∧ 0 ≤ endAt l i) (hm : l[i]? = some m) (h : refM n (endAt l i) m = true) : refMaps n l = false := by
  unfold refMaps
  rw [hx.1, drop_at hm, refFrom, h]
  rfl
theorem ref_end {n : Nat} {l : List M} (hx : refFrom n 0 l = refFrom n (endAt l l.length) (l.drop l.length) ∧ 0 ≤ endAt l l.length) : decide ((l.length : Int) ≤ 16) = refMaps n l := by
  unfold refMaps
  rw [hx.1, List.drop_length, refFrom, Bool.true_and]
set_option maxRecDepth 100000 in
theorem f101 {l : List M} {n : Nat} (hl0 : l.length ≤ maxLen) : Fn True Try.prog 101 [.one (Lay.sl mapL) l, .int .i64 (n : Int)] (.bool (refMaps n l)) := fn2 fun w F v0 v1 h0 h1 hF => by
  have hl : l.length ≤ 9223372036854775807 := hl0
  go_enter Try.func101, Try.ntmps101
  refine wp_seq ?_
  refine flowC mixed (st0 (U := True) (N := 70) (e := [(0, true, .one (Lay.sl mapL) l), (1, true, .int .i64 (n : Int))]) (F := F) rfl rfl hF ⟨⟨rfl, h0⟩, ⟨⟨rfl, h1⟩, True.intro⟩⟩) (by kernel_rfl) (by kernel_rfl) (cc rfl (p_assign g0 (oc _)) cn) fun a1 w1 b1 s1 => ?_
  have z1 := b1
  refine wp_seq ?_
  refine flowC mixed (s1.keep (sc 0 rfl (sc 1 rfl (sc 4 rfl sn)))) (by kernel_rfl) (by kernel_rfl) (cc rfl (p_assign g0 (oc _)) cn) fun a2 w2 b2 s2 => ?_
  have z2 := z1.trans (b2.mono z1.size)
  refine wp_seq ?_
  refine wp_seq ?_
  refine flowC mixed (s2.keep (sc 0 rfl (sc 1 rfl (sc 4 rfl (sc 5 rfl sn))))) (by kernel_rfl) (by kernel_rfl) (cc rfl (p_move g0 (od rfl id))
      (cc rfl (p_len ln_65 g0 (od rfl id))
      (cc rfl (p_move g0 (oc _)) cn))) fun a3 w3 b3 s3 => ?_
  have z3 := z2.trans (b3.mono z2.size)
  refine wp_block ?_
  refine wp_range l.length 10 (fun i => [(5, true, .int .i64 (endAt l i))]) (fun i w => refFrom n 0 l = refFrom n (endAt l i) (l.drop i) ∧ 0 ≤ endAt l i) (s3.keep (sc 10 rfl (sc 5 rfl (sc 0 rfl (sc 1 rfl (sc 4 rfl (sc 8 rfl (sc 9 rfl sn)))))))) z3 (⟨rfl, Int.le_refl 0⟩) fun i a4 w4 hi1 s4 z4 x4 => ?_
  refine wp_seq ?_
  refine flowC mixed (s4.keep (sc 0 rfl (sc 1 rfl (sc 4 rfl (sc 5 rfl (sc 8 rfl (sc 9 rfl (sc 10 rfl sn)))))))) (by kernel_rfl) (by kernel_rfl) (cc rfl (p_bin g0 (od rfl id) (od rfl id) b_lss_3) cn) fun a5 w5 b5 s5 => ?_
  have z5 := z4.trans (b5.mono z4.size)
  refine wp_seq ?_
  refine s5.cond 11 rfl (fun h => ?_) (fun h => ?_)
  · -- true
    have hlt1 : i < l.length := by simpa using h
    obtain ⟨m, em⟩ : ∃ x, l[i]? = some x := ⟨_, List.getElem?_eq_getElem hlt1⟩
    refine wp_skip ?_
    refine wp_seq ?_
    refine wp_block ?_
    refine wp_seq ?_
    refine flowQ 3 mixed (s5.keep (sc 0 rfl (sc 1 rfl (sc 4 rfl (sc 5 rfl (sc 8 rfl (sc 9 rfl (sc 10 rfl (sc 11 rfl sn))))))))) (by kernel_rfl) (by kernel_rfl) (cc rfl (p_index ix_65 em g0 (od rfl id) (od rfl id))
        (cc rfl (p_load u_145 ur_145 sz_145 g0 (od rfl id))
        (ca rfl (m_alloc al_145 nu145) cn))) (by kernel_rfl) (ss rfl rfl rfl rfl puts_st sz_145 rfl rfl ss0) fun a6 w6 b6 s6 => ?_
    have z6 := z5.trans (b6.mono z5.size)
    refine wp_seq ?_
    refine wp_seq ?_
    refine flowC mixed (s6.keep (sc 0 rfl (sc 1 rfl (sc 4 rfl (sc 5 rfl (sc 7 rfl (sc 8 rfl (sc 9 rfl (sc 10 rfl (sc 11 rfl (sc 12 rfl (sc 13 rfl sn)))))))))))) (by kernel_rfl) (by kernel_rfl) (cc rfl (p_fieldAddr pt145_3 fa_145_3 g0 (od rfl id))
        (cc rfl (p_loadI ld_3 g0 (od rfl id))
        (cc rfl (p_bin g0 (od rfl id) (oc _) b_lss_3)
        (cc rfl (p_move g0 (od rfl id))
        (cc rfl (p_fieldAddr pt145_3 fa_145_3 (g1 rfl rfl) (od rfl (fun _ => rfl)))
        (cc rfl (p_loadI ld_3 (g1 rfl rfl) (od rfl id))
        (cc rfl (p_bin (g1 rfl rfl) (od rfl id) (oc _) b_gtr_3)
        (cc rfl (p_or g0 (od rfl id) (od rfl id))
        (cc rfl (p_move g0 (od rfl id))
        (cc rfl (p_fieldAddr pt145_0 fa_145_0 (g1 rfl rfl) (od rfl (fun _ => rfl)))
        (cc rfl (p_loadI ld_3 (g1 rfl rfl) (od rfl id))
        (cc rfl (p_move (g1 rfl rfl) (od rfl (fun _ => rfl)))
        (cc rfl (p_bin (g1 rfl rfl) (od rfl id) (od rfl id) b_lss_3)
        (cc rfl (p_or g0 (od rfl id) (od rfl id))
        (cc rfl (p_move g0 (od rfl id))
        (cc rfl (p_fieldAddr pt145_0 fa_145_0 (g1 rfl rfl) (od rfl (fun _ => rfl)))
        (cc rfl (p_loadI ld_3 (g1 rfl rfl) (od rfl id))
        (cc rfl (p_fieldAddr pt145_3 fa_145_3 (g1 rfl rfl) (od rfl (fun _ => rfl)))
        (cc rfl (p_loadI ld_3 (g1 rfl rfl) (od rfl id))
        (cc rfl (p_bin (g1 rfl rfl) (oc _) (od rfl id) b_sub_3)
        (cc rfl (p_bin (g1 rfl rfl) (od rfl id) (od rfl id) b_gtr_3)
        (cc rfl (p_or g0 (od rfl id) (od rfl id))
        (cc rfl (p_move g0 (od rfl id))
        (cc rfl (p_fieldAddr pt145_2 fa_145_2 (g1 rfl rfl) (od rfl (fun _ => rfl)))
        (cc rfl (p_loadI ld_3 (g1 rfl rfl) (od rfl id))
        (cc rfl (p_bin (g1 rfl rfl) (od rfl id) (oc _) b_lss_3)
        (cc rfl (p_or g0 (od rfl id) (od rfl id))
        (cc rfl (p_move g0 (od rfl id))
        (cc rfl (p_fieldAddr pt145_2 fa_145_2 (g1 rfl rfl) (od rfl (fun _ => rfl)))
        (cc rfl (p_loadI ld_3 (g1 rfl rfl) (od rfl id))
        (cc rfl (p_fieldAddr pt145_3 fa_145_3 (g1 rfl rfl) (od rfl (fun _ => rfl)))
        (cc rfl (p_loadI ld_3 (g1 rfl rfl) (od rfl id))
        (cc rfl (p_bin (g1 rfl rfl) (oc _) (od rfl id) b_sub_3)
        (cc rfl (p_bin (g1 rfl rfl) (od rfl id) (od rfl id) b_gtr_3)
        (cc rfl (p_or g0 (od rfl id) (od rfl id))
        (cc rfl (p_move g0 (od rfl id))
        (cc rfl (p_fieldAddr pt145_1 fa_145_1 (g1 rfl rfl) (od rfl (fun _ => rfl)))
        (cc rfl (p_loadI ld_23 (g1 rfl rfl) (od rfl id))
        (cc rfl (p_bin (g1 rfl rfl) (od rfl id) (oc _) b_lss_23)
        (cc rfl (p_or g0 (od rfl id) (od rfl id))
        (cc rfl (p_move g0 (od rfl id))
        (cc rfl (p_fieldAddr pt145_1 fa_145_1 (g1 rfl rfl) (od rfl (fun _ => rfl)))
        (cc rfl (p_loadI ld_23 (g1 rfl rfl) (od rfl id))
        (cc rfl (p_move (g1 rfl rfl) (od rfl (fun _ => rfl)))
        (cc rfl (p_conv (g1 rfl rfl) (od rfl id) cv_3_23)
        (cc rfl (p_bin (g1 rfl rfl) (od rfl id) (od rfl id) b_gtr_23)
        (cc rfl (p_or g0 (od rfl id) (od rfl id)) cn))))))))))))))))))))))))))))))))))))))))))))))) fun a7 w7 b7 s7 => ?_
    have z7 := z6.trans (b7.mono z6.size)
    refine s7.cond 60 rfl (fun h60 => ?_) (fun h60 => ?_)
    · -- true
      have h60 : refM n (endAt l i) m = true := h60
      refine wp_seq ?_
      refine flowT (s7.keep (sc 0 rfl (sc 1 rfl (sc 4 rfl (sc 5 rfl (sc 7 rfl (sc 8 rfl (sc 9 rfl (sc 10 rfl (sc 11 rfl (sc 12 rfl (sc 13 rfl (sc 14 rfl (sc 15 rfl (sc 16 rfl (sc 17 rfl (sc 18 rfl (sc 19 rfl (sc 20 rfl (sc 21 rfl (sc 22 rfl (sc 23 rfl (sc 24 rfl (sc 25 rfl (sc 26 rfl (sc 27 rfl (sc 28 rfl (sc 29 rfl (sc 30 rfl (sc 31 rfl (sc 32 rfl (sc 33 rfl (sc 34 rfl (sc 35 rfl (sc 36 rfl (sc 37 rfl (sc 38 rfl (sc 39 rfl (sc 40 rfl (sc 41 rfl (sc 42 rfl (sc 43 rfl (sc 44 rfl (sc 45 rfl (sc 46 rfl (sc 47 rfl (sc 48 rfl (sc 49 rfl (sc 50 rfl (sc 51 rfl (sc 52 rfl (sc 53 rfl (sc 54 rfl (sc 55 rfl (sc 56 rfl (sc 57 rfl (sc 58 rfl (sc 59 rfl (sc 60 rfl sn))))))))))))))))))))))))))))))))))))))))))))))))))))))))))) (by kernel_rfl) (cc rfl (p_assign g0 (oc _)) cn) fun a8 w8 b8 s8 => ?_
      have z8 := z7.trans (b8.mono z7.size)
      have s8 := s8.more 4 (y := .bool (refMaps n l)) (bool_as (s8.get 4 rfl) (ref_bad x4 em h60).symm)
      exact wp_ret (ret_tmp (fn := Try.f101) s8 4 rfl rfl (fun _ h => h) z8)
    · -- false
      have h60 : refM n (endAt l i) m = false := h60
      refine wp_skip ?_
      refine flowT (s7.keep (sc 0 rfl (sc 1 rfl (sc 4 rfl (sc 5 rfl (sc 7 rfl (sc 8 rfl (sc 9 rfl (sc 10 rfl (sc 11 rfl (sc 12 rfl (sc 13 rfl (sc 14 rfl (sc 15 rfl (sc 16 rfl (sc 17 rfl (sc 18 rfl (sc 19 rfl (sc 20 rfl (sc 21 rfl (sc 22 rfl (sc 23 rfl (sc 24 rfl (sc 25 rfl (sc 26 rfl (sc 27 rfl (sc 28 rfl (sc 29 rfl (sc 30 rfl (sc 31 rfl (sc 32 rfl (sc 33 rfl (sc 34 rfl (sc 35 rfl (sc 36 rfl (sc 37 rfl (sc 38 rfl (sc 39 rfl (sc 40 rfl (sc 41 rfl (sc 42 rfl (sc 43 rfl (sc 44 rfl (sc 45 rfl (sc 46 rfl (sc 47 rfl (sc 48 rfl (sc 49 rfl (sc 50 rfl (sc 51 rfl (sc 52 rfl (sc 53 rfl (sc 54 rfl (sc 55 rfl (sc 56 rfl (sc 57 rfl (sc 58 rfl (sc 59 rfl (sc 60 rfl sn))))))))))))))))))))))))))))))))))))))))))))))))))))))))))) (by kernel_rfl) (cc rfl (p_fieldAddr pt145_0 fa_145_0 g0 (od rfl id))
          (cc rfl (p_loadI ld_3 g0 (od rfl id))
          (cc rfl (p_fieldAddr pt145_3 fa_145_3 g0 (od rfl id))
          (cc rfl (p_loadI ld_3 g0 (od rfl id))
          (cc rfl (p_bin g0 (od rfl id) (od rfl id) b_add_3)
          (cc rfl (p_assign g0 (od rfl id)) cn)))))) fun a9 w9 b9 s9 => ?_
      have z9 := z7.trans (b9.mono z7.size)
      have s9 := s9.more 5 (y := .int .i64 (endAt l (i + 1))) (int_as (s9.get 5 rfl) ((refM_bd x4.2 h60).2.trans (end_succ em).symm))
      refine flowT (s9.keep (sc 0 rfl (sc 1 rfl (sc 4 rfl (sc 5 rfl (sc 7 rfl (sc 8 rfl (sc 9 rfl (sc 10 rfl (sc 11 rfl (sc 12 rfl (sc 13 rfl (sc 14 rfl (sc 15 rfl (sc 16 rfl (sc 17 rfl (sc 18 rfl (sc 19 rfl (sc 20 rfl (sc 21 rfl (sc 22 rfl (sc 23 rfl (sc 24 rfl (sc 25 rfl (sc 26 rfl (sc 27 rfl (sc 28 rfl (sc 29 rfl (sc 30 rfl (sc 31 rfl (sc 32 rfl (sc 33 rfl (sc 34 rfl (sc 35 rfl (sc 36 rfl (sc 37 rfl (sc 38 rfl (sc 39 rfl (sc 40 rfl (sc 41 rfl (sc 42 rfl (sc 43 rfl (sc 44 rfl (sc 45 rfl (sc 46 rfl (sc 47 rfl (sc 48 rfl (sc 49 rfl (sc 50 rfl (sc 51 rfl (sc 52 rfl (sc 53 rfl (sc 54 rfl (sc 55 rfl (sc 56 rfl (sc 57 rfl (sc 58 rfl (sc 59 rfl (sc 60 rfl (sc 61 rfl (sc 62 rfl (sc 63 rfl (sc 64 rfl (sc 65 rfl sn)))))))))))))))))))))))))))))))))))))))))))))))))))))))))))))))) (by kernel_rfl) (cc rfl (p_bin g0 (od rfl id) (oc _) (inc_3 (by omega)))
          (cc rfl (p_move g0 (od rfl id)) cn)) fun a10 w10 b10 s10 => ?_
      have z10 := z9.trans (b10.mono z9.size)
      exact ⟨hlt1, s10.to _ ⟨rfl, rfl, rfl, rfl, rfl, rfl, rfl, True.intro⟩, z10, ref_go x4 em h60⟩
  · -- false
    obtain rfl : i = l.length := by have := of_decide_eq_false h; (try dsimp only at this); omega
    refine wp_exit ?_
    refine wp_seq ?_
    refine flowT (s5.keep (sc 0 rfl (sc 1 rfl (sc 4 rfl (sc 5 rfl (sc 8 rfl (sc 9 rfl (sc 10 rfl sn)))))))) (by kernel_rfl) (cc rfl (p_move g0 (od rfl id))
        (cc rfl (p_len ln_65 g0 (od rfl id))
        (cc rfl (p_bin g0 (od rfl id) (oc _) b_leq_3)
        (cc rfl (p_assign g0 (od rfl id)) cn)))) fun a11 w11 b11 s11 => ?_
    have z11 := z5.trans (b11.mono z5.size)
    have s11 := s11.more 4 (y := .bool (refMaps n l)) (bool_as (s11.get 4 rfl) (ref_end x4))
    exact wp_ret (ret_tmp (fn := Try.f101) s11 4 rfl rfl (fun _ h => h) z11)
end Go.Proofs.Ytihddficgpjgpaa.Y
namespace Go.Proofs.Ytihddficgpjgpaa.Y
open Go.RowKit Go.ChangeShapes Go.WideShapes Go.ChangeAt
/-- A plan's object lies with seeds where the object has labels. -/
def psL : Lay Ob := (((Lay.int .i64).pr ((Lay.int .i64).pr ((sdL).pr ((sdL).pr ((Lay.int .i64).pr ((Lay.int .i64).pr ((Lay.sl byL).pr ((Lay.sl mapL).pr ((Lay.int .i64).pr (Lay.int .i64))))))))))).via fun o => (o.k, o.par, o.lab, o.clr, o.pg, o.nm, o.dat, o.mps, o.sp, o.pc)
def plL : Lay Cf := (((Lay.int .i64).pr ((Lay.int .i64).pr ((Lay.int .i64).pr ((Lay.sl slotL).pr (Lay.sl psL)))))).via fun o => (o.co, o.fr, o.nm, o.sl, o.obs)
theorem pt120_0 : Part psL (Lay.int .i64) 0 (fun o => o.k) := Part.via (Part.fst (Part.self _))
theorem pt120_1 : Part psL (Lay.int .i64) 1 (fun o => o.par) := Part.via (Part.snd (Part.fst (Part.self _)))
theorem pt120_2 : Part psL (sdL) 2 (fun o => o.lab) := Part.via (Part.snd (Part.snd (Part.fst (Part.self _))))
theorem pt120_3 : Part psL (sdL) 4 (fun o => o.clr) := Part.via (Part.snd (Part.snd (Part.snd (Part.fst (Part.self _)))))
theorem pt120_4 : Part psL (Lay.int .i64) 6 (fun o => o.pg) := Part.via (Part.snd (Part.snd (Part.snd (Part.snd (Part.fst (Part.self _))))))
theorem pt120_5 : Part psL (Lay.int .i64) 7 (fun o => o.nm) := Part.via (Part.snd (Part.snd (Part.snd (Part.snd (Part.snd (Part.fst (Part.self _)))))))
theorem pt120_6 : Part psL (Lay.sl byL) 8 (fun o => o.dat) := Part.via (Part.snd (Part.snd (Part.snd (Part.snd (Part.snd (Part.snd (Part.fst (Part.self _))))))))
theorem pt120_7 : Part psL (Lay.sl mapL) 9 (fun o => o.mps) := Part.via (Part.snd (Part.snd (Part.snd (Part.snd (Part.snd (Part.snd (Part.snd (Part.fst (Part.self _)))))))))
theorem pt120_8 : Part psL (Lay.int .i64) 10 (fun o => o.sp) := Part.via (Part.snd (Part.snd (Part.snd (Part.snd (Part.snd (Part.snd (Part.snd (Part.snd (Part.fst (Part.self _))))))))))
theorem pt120_9 : Part psL (Lay.int .i64) 11 (fun o => o.pc) := Part.via (Part.snd (Part.snd (Part.snd (Part.snd (Part.snd (Part.snd (Part.snd (Part.snd (Part.snd (Part.self _))))))))))
theorem pt56_0 : Part plL (Lay.int .i64) 0 (fun o => o.co) := Part.via (Part.fst (Part.self _))
theorem pt56_1 : Part plL (Lay.int .i64) 1 (fun o => o.fr) := Part.via (Part.snd (Part.fst (Part.self _)))
theorem pt56_2 : Part plL (Lay.int .i64) 2 (fun o => o.nm) := Part.via (Part.snd (Part.snd (Part.fst (Part.self _))))
theorem pt56_3 : Part plL (Lay.sl slotL) 3 (fun o => o.sl) := Part.via (Part.snd (Part.snd (Part.snd (Part.fst (Part.self _)))))
theorem pt56_4 : Part plL (Lay.sl psL) 4 (fun o => o.obs) := Part.via (Part.snd (Part.snd (Part.snd (Part.snd (Part.self _)))))
def okM (m : M) : Prop := (Lit.int .i64 m.pa).wf = true ∧ (Lit.int .u64 m.sg).wf = true ∧ (Lit.int .i64 m.fr).wf = true ∧ (Lit.int .i64 m.nn).wf = true ∧ True
def okS (s : Int × Int) : Prop := (Lit.int .u64 s.1).wf = true ∧ (Lit.int .i64 s.2).wf = true
theorem opens_mapC : Opens Try.prog 145 mapL okM := opens_via (f := fun m : M => (m.pa, m.sg, m.fr, m.nn, m.wr)) (fun x => (⟨x.1, x.2.1, x.2.2.1, x.2.2.2.1, x.2.2.2.2⟩ : M)) (fun _ => rfl) (fun _ h => h) (opens_struct (fs := [_, _, _, _, _]) Try.underlying145 (by kernel_rfl) (fs_cons rfl (by kernel_rfl) (opens_int Try.underlying3) (fs_cons rfl (by kernel_rfl) (opens_int Try.underlying23) (fs_cons rfl (by kernel_rfl) (opens_int Try.underlying3) (fs_cons rfl (by kernel_rfl) (opens_int Try.underlying3) (fs_last rfl (by kernel_rfl) (opens_bool Try.underlying4)))))))
theorem opens_slotC : Opens Try.prog 64 slotL okS := opens_struct (fs := [_, _]) Try.underlying64 (by kernel_rfl) (fs_cons rfl (by kernel_rfl) (opens_int Try.underlying23) (fs_last rfl (by kernel_rfl) (opens_int Try.underlying3)))
end Go.Proofs.Ytihddficgpjgpaa.Y
namespace Go.Proofs.Ytihddficgpjgpaa.Y
open Go.RowKit Go.ChangeShapes Go.WideShapes Go.ChangeAt
section
variable {d : Nat} {t : TypeId} {p : String} {af : Array Edge} {g : Option (Nat × Bool)} {x x2 : Operand}
theorem fa_56_0 : FieldRun Try.prog ⟨some d, .fieldAddr 56 x 0, t, p, af, g⟩ x 0 := fun ev w b off h1 => by go_simp
theorem fa_56_1 : FieldRun Try.prog ⟨some d, .fieldAddr 56 x 1, t, p, af, g⟩ x 1 := fun ev w b off h1 => by go_simp
theorem fa_56_2 : FieldRun Try.prog ⟨some d, .fieldAddr 56 x 2, t, p, af, g⟩ x 2 := fun ev w b off h1 => by go_simp
theorem fa_56_3 : FieldRun Try.prog ⟨some d, .fieldAddr 56 x 3, t, p, af, g⟩ x 3 := fun ev w b off h1 => by go_simp
theorem fa_56_4 : FieldRun Try.prog ⟨some d, .fieldAddr 56 x 4, t, p, af, g⟩ x 4 := fun ev w b off h1 => by go_simp
theorem fa_120_0 : FieldRun Try.prog ⟨some d, .fieldAddr 120 x 0, t, p, af, g⟩ x 0 := fun ev w b off h1 => by go_simp
theorem fa_120_1 : FieldRun Try.prog ⟨some d, .fieldAddr 120 x 1, t, p, af, g⟩ x 1 := fun ev w b off h1 => by go_simp
theorem fa_120_2 : FieldRun Try.prog ⟨some d, .fieldAddr 120 x 2, t, p, af, g⟩ x 2 := fun ev w b off h1 => by go_simp
theorem fa_120_3 : FieldRun Try.prog ⟨some d, .fieldAddr 120 x 3, t, p, af, g⟩ x 4 := fun ev w b off h1 => by go_simp
theorem fa_120_4 : FieldRun Try.prog ⟨some d, .fieldAddr 120 x 4, t, p, af, g⟩ x 6 := fun ev w b off h1 => by go_simp
theorem fa_120_5 : FieldRun Try.prog ⟨some d, .fieldAddr 120 x 5, t, p, af, g⟩ x 7 := fun ev w b off h1 => by go_simp
theorem fa_120_6 : FieldRun Try.prog ⟨some d, .fieldAddr 120 x 6, t, p, af, g⟩ x 8 := fun ev w b off h1 => by go_simp
theorem fa_120_7 : FieldRun Try.prog ⟨some d, .fieldAddr 120 x 7, t, p, af, g⟩ x 9 := fun ev w b off h1 => by go_simp
theorem fa_120_8 : FieldRun Try.prog ⟨some d, .fieldAddr 120 x 8, t, p, af, g⟩ x 10 := fun ev w b off h1 => by go_simp
theorem fa_120_9 : FieldRun Try.prog ⟨some d, .fieldAddr 120 x 9, t, p, af, g⟩ x 11 := fun ev w b off h1 => by go_simp
theorem ld_54 : LoadRun Try.prog ⟨some d, .load 54 x, t, p, af, g⟩ x := fun ev w b off v h1 h2 => by go_simp
theorem ix_54 : IndexRun Try.prog ⟨some d, .indexAddr 54 x x2, t, p, af, g⟩ x x2 12 := fun ev w b off len cap i h1 h2 h3 => by
  have hd : decide ((0 : Int) ≤ i) = true := by simp
  have hd2 : decide ((i : Int) < len) = true := by simp; omega
  go_simp
theorem ln_54 : LenRun Try.prog ⟨some d, .call { callee := .builtin .len, args := #[x], argTypes := #[54] }, t, p, af, g⟩ x := fun ev w A len cap h1 => by go_simp
theorem bx_56 : BoxRun Try.prog ⟨some d, .box 56 x, t, p, af, g⟩ x 56 := fun ev w cs h1 => by go_simp
end
/-- How much a plan holds, up to an object. -/
def sumTo (c : Cf) : Nat → Nat
  | 0 => c.sl.length + c.obs.length
  | i + 1 => sumTo c i + (match c.obs[i]? with
    | some o => o.dat.length + o.mps.length
    | none => 0)
def lightB (c : Cf) : Bool := decide (sumTo c c.obs.length ≤ 3000)
theorem sum_succ {c : Cf} {i : Nat} {o : Ob} (h : c.obs[i]? = some o) : sumTo c (i + 1) = sumTo c i + (o.dat.length + o.mps.length) := by simp only [sumTo, h]
theorem sum_mono (c : Cf) {i : Nat} : ∀ {k : Nat}, i ≤ k → sumTo c i ≤ sumTo c k
  | 0, h => by rw [Nat.le_zero.1 h]; exact Nat.le_refl _
  | k + 1, h => by
    rcases Nat.lt_or_ge i (k + 1) with h1 | h1
    · exact Nat.le_trans (sum_mono c (Nat.le_of_lt_succ h1)) (Nat.le_add_right _ _)
    · rw [Nat.le_antisymm h h1]; exact Nat.le_refl _
theorem light_end {c : Cf} {i : Nat} (hi : i ≤ c.obs.length) (h : (decide ((i : Int) < (c.obs.length : Int)) && decide ((sumTo c i : Int) ≤ 3000)) = false) : decide ((sumTo c i : Int) ≤ 3000) = lightB c := by
  unfold lightB
  rw [decide_eq_decide]
  have h1 := sum_mono c hi
  rcases Nat.lt_or_ge i c.obs.length with h2 | h2
  · have h3 : ¬ ((sumTo c i : Int) ≤ 3000) := by
      intro h3
      simp [h2] at h
      omega
    omega
  · rw [show c.obs.length = i by omega]
    omega
/-- Its lists are no larger than a machine's. -/
structure FewC (c : Cf) : Prop where
  sl : c.sl.length ≤ 1048576
  obs : c.obs.length ≤ 1048576
  each : ∀ o ∈ c.obs, o.dat.length ≤ 1048576 ∧ o.mps.length ≤ 1048576
set_option maxRecDepth 100000 in
theorem f44 {c : Cf} (hf : FewC c) : Fn True Try.prog 44 [.st plL c] (.bool (lightB c)) := fn1 fun w F v0 h0 hF => by
  go_enter Try.func44, Try.ntmps44
  refine wp_seq ?_
  refine flowC mixed (st0 (U := True) (N := 42) (e := [(0, true, .st plL c)]) (F := F) rfl rfl hF ⟨⟨rfl, h0⟩, True.intro⟩) (by kernel_rfl) (by kernel_rfl) (cc rfl (p_box bx_56 g0 (od rfl id))
      (cc rfl (p_assign g0 (oc _)) cn)) fun a1 w1 b1 s1 => ?_
  have z1 := b1
  refine wp_seq ?_
  refine flowC mixed (s1.keep (sc 1 rfl (sc 2 rfl sn))) (by kernel_rfl) (by kernel_rfl) (cc rfl (p_fieldAddr pt56_3 fa_56_3 g0 (od rfl id))
      (cc rfl (p_load1 rfl ld_53 g0 (od rfl id))
      (cc rfl (p_len ln_53 g0 (od rfl id))
      (cc rfl (p_fieldAddr pt56_4 fa_56_4 g0 (od rfl id))
      (cc rfl (p_load1 rfl ld_54 g0 (od rfl id))
      (cc rfl (p_len ln_54 g0 (od rfl id))
      (cc rfl (p_binE (n' := ((sumTo c 0 : Nat) : Int)) (by show IntKind.i64.wrap ((c.sl.length : Int) + (c.obs.length : Int)) = ((c.sl.length + c.obs.length : Nat) : Int); have := hf.sl; have := hf.obs; rw [IntKind.wrap_i64]; omega) g0 (od rfl id) (od rfl id) b_add_3)
      (cc rfl (p_assign g0 (od rfl id)) cn)))))))) fun a2 w2 b2 s2 => ?_
  have z2 := z1.trans (b2.mono z1.size)
  refine wp_seq ?_
  refine wp_seq ?_
  refine flowC mixed (s2.keep (sc 1 rfl (sc 2 rfl (sc 3 rfl sn)))) (by kernel_rfl) (by kernel_rfl) (cc rfl (p_assign g0 (oc _)) cn) fun a3 w3 b3 s3 => ?_
  have z3 := z2.trans (b3.mono z2.size)
  refine wp_block ?_
  refine wp_range c.obs.length 4 (fun i => [(3, true, .int .i64 (sumTo c i : Nat))]) (fun _ _ => True) (s3.keep (sc 4 rfl (sc 3 rfl (sc 1 rfl (sc 2 rfl sn))))) z3 True.intro fun i a4 w4 hi1 s4 z4 x4 => ?_
  refine wp_seq ?_
  refine wp_seq ?_
  refine flowC mixed (s4.keep (sc 1 rfl (sc 2 rfl (sc 3 rfl (sc 4 rfl sn))))) (by kernel_rfl) (by kernel_rfl) (cc rfl (p_move g0 (od rfl id))
      (cc rfl (p_fieldAddr pt56_4 fa_56_4 g0 (od rfl id))
      (cc rfl (p_load1 rfl ld_54 g0 (od rfl id))
      (cc rfl (p_len ln_54 g0 (od rfl id))
      (cc rfl (p_bin g0 (od rfl id) (od rfl id) b_lss_3)
      (cc rfl (p_move g0 (od rfl id))
      (cc rfl (p_move (g1 rfl rfl) (od rfl (fun _ => rfl)))
      (cc rfl (p_bin (g1 rfl rfl) (od rfl id) (oc _) b_leq_3)
      (cc rfl (p_and g0 (od rfl id) (od rfl id)) cn))))))))) fun a5 w5 b5 s5 => ?_
  have z5 := z4.trans (b5.mono z4.size)
  refine s5.cond 20 rfl (fun h20 => ?_) (fun h20 => ?_)
  · -- true
    have h20 : i < c.obs.length ∧ (sumTo c i : Int) ≤ 3000 := by simpa using h20
    have hlt1 := h20.1
    have hi3 := h20.2
    obtain ⟨o, eo⟩ : ∃ o, c.obs[i]? = some o := ⟨_, List.getElem?_eq_getElem hlt1⟩
    obtain ⟨hd1, hd2⟩ := hf.each o (List.mem_of_getElem? eo)
    have hob := hf.obs
    refine wp_skip ?_
    refine wp_seq ?_
    refine wp_block ?_
    refine flowR 17 mixed (s5.keep (sc 1 rfl (sc 2 rfl (sc 3 rfl (sc 4 rfl (sc 12 rfl (sc 13 rfl (sc 14 rfl (sc 15 rfl (sc 16 rfl (sc 17 rfl (sc 18 rfl (sc 19 rfl (sc 20 rfl sn)))))))))))))) (by kernel_rfl) (by kernel_rfl) (cc rfl (p_move g0 (od rfl id))
        (cc rfl (p_fieldAddr pt56_4 fa_56_4 g0 (od rfl id))
        (cc rfl (p_load1 rfl ld_54 g0 (od rfl id))
        (cc rfl (p_move g0 (od rfl id))
        (cc rfl (p_index ix_54 eo g0 (od rfl id) (od rfl id))
        (cc rfl (p_fieldAddr pt120_6 fa_120_6 g0 (od rfl id))
        (cc rfl (p_load1 rfl ld_22 g0 (od rfl id))
        (cc rfl (p_len ln_22 g0 (od rfl id))
        (cc rfl (p_fieldAddr pt56_4 fa_56_4 g0 (od rfl id))
        (cc rfl (p_load1 rfl ld_54 g0 (od rfl id))
        (cc rfl (p_move g0 (od rfl id))
        (cc rfl (p_index ix_54 eo g0 (od rfl id) (od rfl id))
        (cc rfl (p_fieldAddr pt120_7 fa_120_7 g0 (od rfl id))
        (cc rfl (p_load1 rfl ld_65 g0 (od rfl id))
        (cc rfl (p_len ln_65 g0 (od rfl id))
        (cc rfl (p_binE (n' := ((o.dat.length + o.mps.length : Nat) : Int)) (by rw [IntKind.wrap_i64]; omega) g0 (od rfl id) (od rfl id) b_add_3)
        (cc rfl (p_binE (n' := ((sumTo c (i + 1) : Nat) : Int)) (by rw [sum_succ eo, IntKind.wrap_i64]; omega) g0 (od rfl id) (od rfl id) b_add_3) cn))))))))))))))))) fun a6 w6 b6 s6 => ?_
    have z6 := z5.trans (b6.mono z5.size)
    refine chainT (t := []) (cc rfl (p_assign g0 (od rfl id)) cn) (by kernel_rfl) s6 fun a7 w7 b7 s7 => wpList_done ?_
    have z7 := z6.trans (b7.mono z6.size)
    refine flowT (s7.keep (sc 1 rfl (sc 2 rfl (sc 3 rfl (sc 4 rfl (sc 12 rfl (sc 13 rfl (sc 14 rfl (sc 15 rfl (sc 16 rfl (sc 17 rfl (sc 18 rfl (sc 19 rfl (sc 20 rfl (sc 23 rfl (sc 24 rfl (sc 25 rfl (sc 26 rfl (sc 27 rfl (sc 28 rfl (sc 29 rfl (sc 30 rfl (sc 31 rfl (sc 32 rfl (sc 33 rfl (sc 34 rfl (sc 35 rfl (sc 36 rfl (sc 37 rfl (sc 38 rfl (sc 39 rfl sn))))))))))))))))))))))))))))))) (by kernel_rfl) (cc rfl (p_move g0 (od rfl id))
        (cc rfl (p_bin g0 (od rfl id) (oc _) (inc_3 (by omega)))
        (cc rfl (p_assign g0 (od rfl id)) cn))) fun a8 w8 b8 s8 => ?_
    have z8 := z7.trans (b8.mono z7.size)
    exact ⟨hlt1, s8.to _ ⟨rfl, rfl, rfl, rfl, True.intro⟩, z8, True.intro⟩
  · -- false
    refine wp_exit ?_
    refine wp_seq ?_
    refine flowT (s5.keep (sc 1 rfl (sc 2 rfl (sc 3 rfl (sc 4 rfl sn))))) (by kernel_rfl) (cc rfl (p_move g0 (od rfl id))
        (cc rfl (p_bin g0 (od rfl id) (oc _) b_leq_3)
        (cc rfl (p_assign g0 (od rfl id)) cn))) fun a9 w9 b9 s9 => ?_
    have z9 := z5.trans (b9.mono z5.size)
    have s9 := s9.more 2 (y := .bool (lightB c)) (bool_as (s9.get 2 rfl) (light_end hi1 h20))
    exact wp_ret (ret_tmp (fn := Try.f44) s9 2 rfl rfl (fun _ h => h) z9)
end Go.Proofs.Ytihddficgpjgpaa.Y
