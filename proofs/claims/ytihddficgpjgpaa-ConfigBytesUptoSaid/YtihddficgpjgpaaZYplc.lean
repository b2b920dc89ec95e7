/- Yplc: the configuration that a plan tells -/
import Derived.Test.YtihddficgpjgpaaZYlim
namespace Go.Proofs.Ytihddficgpjgpaa.Y
open Go.RowKit Go.ChangeShapes Go.WideShapes Go.ChangeAt
theorem am {α : Type} {p : StM α → Prop} {r : StM α} {t : List (StM α)} (h : p r) (hr : AllM p t) : AllM p (r :: t) := ⟨h, hr⟩
theorem am0 {α : Type} {p : StM α → Prop} : AllM p [] := True.intro
theorem nou59p (a b c : Int) (A A' : Option Addr) (n m n' m' : Nat) (x : Int) : Value.int .u32 x ∉ (#[.int .i64 a, .int .i64 b, .int .i64 c, .slice A n m, .slice A' n' m'] : Array Value).toList := by simp
/-- What is known of something else than the slot's value. -/
def Sym.ghost {α : Type} (L : Lay α) (cs : List Value) (x : α) : Sym := ⟨fun w F _ => L.on w F cs x, fun h hk hF => L.mono h hk hF⟩
abbrev obA := ((Lay.int .i64).pr ((Lay.int .i64).pr ((labL 12).pr ((labL 12).pr ((Lay.int .i64).pr ((Lay.int .i64).pr ((Lay.sl byL).pr ((Lay.sl mapL).pr ((Lay.int .i64).pr (Lay.int .i64))))))))))
abbrev obG (o : Ob) := (o.k, o.par, o.lab, o.clr, o.pg, o.nm, o.dat, o.mps, o.sp, o.pc)
theorem pw67_3 : PartW obL (labL 12) 4 (fun o b => { o with clr := b }) := PartW.via (A := obA) (g := obG) (L := labL 12) (off := 4) (PartW.snd (PartW.snd (PartW.snd (PartW.fst (PartW.self _))))) (fun o b => { o with clr := b }) (fun _ _ => rfl)
theorem pw67_4 : PartW obL (Lay.int .i64) 6 (fun o b => { o with pg := b }) := PartW.via (A := obA) (g := obG) (L := Lay.int .i64) (off := 6) (PartW.snd (PartW.snd (PartW.snd (PartW.snd (PartW.fst (PartW.self _)))))) (fun o b => { o with pg := b }) (fun _ _ => rfl)
theorem pw67_5 : PartW obL (Lay.int .i64) 7 (fun o b => { o with nm := b }) := PartW.via (A := obA) (g := obG) (L := Lay.int .i64) (off := 7) (PartW.snd (PartW.snd (PartW.snd (PartW.snd (PartW.snd (PartW.fst (PartW.self _))))))) (fun o b => { o with nm := b }) (fun _ _ => rfl)
theorem pw67_6 : PartW obL (Lay.sl byL) 8 (fun o b => { o with dat := b }) := PartW.via (A := obA) (g := obG) (L := Lay.sl byL) (off := 8) (PartW.snd (PartW.snd (PartW.snd (PartW.snd (PartW.snd (PartW.snd (PartW.fst (PartW.self _)))))))) (fun o b => { o with dat := b }) (fun _ _ => rfl)
theorem pw67_7 : PartW obL (Lay.sl mapL) 9 (fun o b => { o with mps := b }) := PartW.via (A := obA) (g := obG) (L := Lay.sl mapL) (off := 9) (PartW.snd (PartW.snd (PartW.snd (PartW.snd (PartW.snd (PartW.snd (PartW.snd (PartW.fst (PartW.self _))))))))) (fun o b => { o with mps := b }) (fun _ _ => rfl)
theorem pw67_8 : PartW obL (Lay.int .i64) 10 (fun o b => { o with sp := b }) := PartW.via (A := obA) (g := obG) (L := Lay.int .i64) (off := 10) (PartW.snd (PartW.snd (PartW.snd (PartW.snd (PartW.snd (PartW.snd (PartW.snd (PartW.snd (PartW.fst (PartW.self _)))))))))) (fun o b => { o with sp := b }) (fun _ _ => rfl)
theorem pw67_9 : PartW obL (Lay.int .i64) 11 (fun o b => { o with pc := b }) := PartW.via (A := obA) (g := obG) (L := Lay.int .i64) (off := 11) (PartW.snd (PartW.snd (PartW.snd (PartW.snd (PartW.snd (PartW.snd (PartW.snd (PartW.snd (PartW.snd (PartW.self _)))))))))) (fun o b => { o with pc := b }) (fun _ _ => rfl)
/-- The object that a plan's object becomes. -/
def obK (o : Ob) : Ob :=
  if o.k = 1 then ⟨o.k, o.par, o.lab, ⟨0, []⟩, o.pg, o.nm, [], [], 0, 0⟩
  else if o.k = 2 then ⟨o.k, o.par, o.lab, ⟨0, []⟩, o.pg, 0, o.dat, [], 0, 0⟩
  else if o.k = 4 then ⟨o.k, o.par, o.lab, ⟨0, []⟩, 0, 0, [], o.mps, 0, 0⟩
  else if o.k = 3 ∨ o.k = 5 then ⟨o.k, o.par, o.lab, o.clr, 0, 0, [], [], o.sp, o.pc⟩
  else ⟨o.k, o.par, o.lab, ⟨0, []⟩, 0, 0, [], [], 0, 0⟩
abbrev ob0 (o : Ob) : Ob := ⟨o.k, o.par, o.lab, ⟨0, []⟩, 0, 0, [], [], 0, 0⟩
def planC (c : Cf) : Cf := ⟨c.co, c.fr, c.nm, c.sl, c.obs.map obK⟩
theorem Try.info145s : (Try.prog.info? 145).map (fun i => (i.zero, i.size, i.bytes)) = some (some (.agg #[.int .i64 0, .int .u64 0, .int .i64 0, .int .i64 0, .bool false]), 5, 40) := by kernel_rfl
theorem Try.underlying65 : Try.prog.underlying 65 = some (.slice 145) := by kernel_rfl
theorem Try.underlying22 : Try.prog.underlying 22 = some (.slice 5) := by kernel_rfl
theorem light_len {c : Cf} (h : lightB c = true) : c.sl.length ≤ 3000 ∧ c.obs.length ≤ 3000 ∧ ∀ o ∈ c.obs, o.dat.length ≤ 3000 ∧ o.mps.length ≤ 3000 := by
  unfold lightB at h
  rw [decide_eq_true_eq] at h
  have h0 := sum_mono c (Nat.zero_le c.obs.length)
  rw [show sumTo c 0 = c.sl.length + c.obs.length from rfl] at h0
  refine ⟨by omega, by omega, fun o ho => ?_⟩
  obtain ⟨i, hi, rfl⟩ := List.getElem_of_mem ho
  have h1 := sum_mono c (Nat.succ_le_of_lt hi)
  rw [Nat.succ_eq_add_one, sum_succ (List.getElem?_eq_getElem hi)] at h1
  omega
theorem nucf {U : Prop} {l : Cf} : U → ∀ {w : World} {F : Cell → Prop} {cs : List Value}, cfL.on w F cs l → ∀ x : Int, Value.int .u32 x ∉ cs := by
  rintro u w F cs ⟨c1, _, rfl, h1, c2, _, rfl, h2, c3, _, rfl, h3, c4, c5, rfl, h4, h5⟩ x hx
  obtain rfl : c1 = [.int .i64 l.co] := h1
  obtain rfl : c2 = [.int .i64 l.fr] := h2
  obtain rfl : c3 = [.int .i64 l.nm] := h3
  obtain ⟨A, c, rfl, _⟩ := h4
  obtain ⟨A2, c2, rfl, _⟩ := h5
  simp at hx
theorem nucf0 {U : Prop} {l : Int × Int × Int × List (Int × Int) × Unit} : U → ∀ {w : World} {F : Cell → Prop} {cs : List Value}, cf0L.on w F cs l → ∀ x : Int, Value.int .u32 x ∉ cs := fun u _ _ _ h => nucf (l := ⟨l.1, l.2.1, l.2.2.1, l.2.2.2.1, []⟩) u (cf0_cf h)
theorem nu59 {U : Prop} : U → ∀ (i : Nat) (x : Int), (#[.int .i64 0, .int .i64 0, .int .i64 0, .slice none 0 0, .slice none 0 0] : Array Value)[i]? ≠ some (.int .u32 x) := fun _ i x => by
  rcases i with _ | _ | _ | _ | _ | i <;> simp
theorem cf0_cells {w : World} {F : Cell → Prop} {cs : Array Value} {a b c : Int} {l : List (Int × Int)} (h : cf0L.on w F cs.toList (a, b, c, l, ())) : ∃ A n m, cs = #[.int .i64 a, .int .i64 b, .int .i64 c, .slice A n m, .slice none 0 0] ∧ (Lay.sl slotL).on w F [.slice A n m] l := by
  obtain ⟨cs⟩ := cs
  have h' : cf0L.on w F cs (a, b, c, l, ()) := h
  obtain ⟨c1, _, rfl, h1, c2, _, rfl, h2, c3, _, rfl, h3, c4, c5, rfl, h4, h5⟩ := h'
  obtain rfl : c1 = [.int .i64 a] := h1
  obtain rfl : c2 = [.int .i64 b] := h2
  obtain rfl : c3 = [.int .i64 c] := h3
  have h4' := h4
  obtain ⟨A, m, rfl, _⟩ := h4'
  obtain rfl : c5 = [.slice none 0 0] := h5
  exact ⟨A, _, m, rfl, h4⟩
theorem sz_3 : (Try.prog.info? 3).map (·.size) = some 1 := by kernel_rfl
theorem sz_120 : (Try.prog.info? 120).map (·.size) = some 12 := by kernel_rfl
theorem sz_22 : (Try.prog.info? 22).map (·.size) = some 1 := by kernel_rfl
theorem sz_65 : (Try.prog.info? 65).map (·.size) = some 1 := by kernel_rfl
theorem own_sl {w : World} {B E k n : Nat} {v : Value} {xs : List Value} (h : w.ownsRow B E k v n xs) : ∃ A m c, v = .slice A m c := by
  obtain ⟨A, c, e⟩ := own_slice h
  exact ⟨A, _, c, e⟩
section
variable {d : Nat} {t : TypeId} {p : String} {af : Array Edge} {g : Option (Nat × Bool)} {x x2 x3 : Operand}
theorem al_120 : AllocRun Try.prog ⟨some d, .alloc 120, t, p, af, none⟩ 120 #[.int .i64 0, .int .i64 0, .int .i64 0, .slice none 0 0, .int .i64 0, .slice none 0 0, .int .i64 0, .int .i64 0, .slice none 0 0, .slice none 0 0, .int .i64 0, .int .i64 0] := fun ev w => by go_simp
theorem bd67_3 : ∀ (ev : Operand → Value) (w : World) (k q l : Int) (A : Option Addr) (n m : Nat), ev x = .int .i64 k → ev x2 = .int .i64 q → ev x3 = .agg #[.int .i64 l, .slice A n m] → (execOp ev ⟨some d, .build 67 #[(0, x), (1, x2), (2, x3)], t, p, af, g⟩).run Try.prog w = .ok (.value (.agg #[.int .i64 k, .int .i64 q, .int .i64 l, .slice A n m, .int .i64 0, .slice none 0 0, .int .i64 0, .int .i64 0, .slice none 0 0, .slice none 0 0, .int .i64 0, .int .i64 0])) w := fun ev w k q l A n m h1 h2 h3 => by go_simp
end
section
variable {U : Prop} {Q : Exit → Act → World → Prop} {N : Nat} {e : Env} {F : Cell → Prop} {a : Act} {w : World} {ops : Array Oper} {rest : List Oper} {o : Oper}
theorem p_bd67_3 {d : Nat} {t : TypeId} {p : String} {af : Array Edge} {g : Option (Nat × Bool)} {c : Bool} {x x2 x3 : Operand} {k q : Int} {l : Lab} (hg : GdE ops e g c) (hx : OpdE e c x (.int .i64 k)) (hx2 : OpdE e c x2 (.int .i64 q)) (hx3 : OpdE e c x3 (.lb l 12)) : Pays U Try.prog ops Q N e ⟨some d, .build 67 #[(0, x), (1, x2), (2, x3)], t, p, af, g⟩ (c, .st obL ⟨k, q, l, ⟨0, []⟩, 0, 0, [], [], 0, 0⟩) :=
  pVal hg fun e a w F hk => by
    obtain ⟨cs, e3, h3⟩ := hx3 a w F (fun s hs => hk s (by simp [Op.operands, hs])) e
    obtain ⟨⟨c1, c2, rfl, h4, h5⟩, hok⟩ := h3
    obtain rfl : c1 = [.int .i64 l.d] := h4
    have h5' := h5
    obtain ⟨A, m, rfl, _⟩ := h5'
    refine ⟨_, bd67_3 _ w k q l.d A l.ps.length m (hx a w F (fun s hs => hk s (by simp [Op.operands, hs])) e) (hx2 a w F (fun s hs => hk s (by simp [Op.operands, hs])) e) e3, [.int .i64 k, .int .i64 q, .int .i64 l.d, .slice A l.ps.length m, .int .i64 0, .slice none 0 0, .int .i64 0, .int .i64 0, .slice none 0 0, .slice none 0 0, .int .i64 0, .int .i64 0], rfl, [_], _, rfl, rfl, [_], _, rfl, rfl, [_, _], _, rfl, ⟨⟨[_], [_], rfl, rfl, h5⟩, hok⟩, [_, _], _, rfl, lab0_of 0, [_], _, rfl, rfl, [_], _, rfl, rfl, [_], _, rfl, nil_of, [_], _, rfl, nil_of, [_], [_], rfl, rfl, rfl⟩
/-- One cell of a block that may be written. -/
theorem cell_W {P : Program} {gq k : Nat} {T T' : TypeId} {z : Array Value} {v : Value} {xo yo : Operand} (h : StE U N e F a w) (h1 : o.op = .store T xo yo) (h2 : o.dst = none) (h3 : o.guard = none) (hx : OpdE e true xo (.val (.pointer (some ⟨gq, k, none⟩)))) (hy : OpdE e true yo (.val v)) (hB : Blk w gq T' z) (hk : k < z.size) (hvc : v.cells = #[v]) (hi : (P.info? T).map (·.size) = some 1) (hone : v.oneCell' = true) (hF : ∀ o, F (gq, o)) (hu : U → ∀ x : Int, Value.int .u32 x ∉ (z.setIfInBounds k v).toList)
    (hQ : ∀ a' w', Blk w' gq T' (z.setIfInBounds k v) → w.grownBy w' (some gq) → StE U N e F a' w' → wpList P ops Q rest a' w') : wpList P ops Q (o :: rest) a w := by
  refine wpList_store_cell h3 T xo yo h1 gq k v (hx a w F (fun s _ => h.known s) rfl) (hy a w F (fun s _ => h.known s) rfl) hvc (by rw [hB.cell]; simp [hk]) (hB.frozen k) hi hone ?_
  rw [h2]
  have G : w.grownBy (w.setCells gq k [v]) (some gq) := only_setCells [v] k (only_refl w (some gq))
  have hB' := hB.set_ k v
  exact hQ _ _ hB' G (h.wroteB G hF fun u => nou_cells hB' (hu u))
end
/-- What may be written while a plan's configuration is made. -/
abbrev PlF (F : Cell → Prop) (g2 g3 : Nat) : Cell → Prop := Also (Also F [g2]) [g3]
structure PlK (c : Cf) (W : World) (F : Cell → Prop) (g2 g3 : Nat) (slv : Value) (i : Nat) (v : Value) (wr : World) : Prop where
  k2 : Blk wr g2 59 #[.int .i64 0, .int .i64 0, .int .i64 0, .slice none 0 0, .slice none 0 0]
  k3 : Blk wr g3 59 #[.int .i64 c.co, .int .i64 c.fr, .int .i64 c.nm, slv, v]
  gr : GrowsL True obL W.heap.size 67 (PlF F g2 g3) wr v ((c.obs.take i).map obK)
  z : Below W.heap.size W wr
abbrev PlE (c : Cf) (g2 g3 : Nat) (slv : Value) (i : Nat) : Env := [(20, true, .int .i64 (i : Int)), (19, true, .int .i64 (c.obs.length : Int)), (18, true, .one (Lay.sl psL) c.obs), (16, true, .ghost (Lay.sl slotL) [slv] c.sl), (2, true, .val (.pointer (some ⟨g2, 0, none⟩))), (3, true, .val (.pointer (some ⟨g3, 0, none⟩)))]
def PlI (c : Cf) (W : World) (F : Cell → Prop) (g2 g3 : Nat) (slv : Value) (i : Nat) (a : Act) (wr : World) : Prop := ∃ v, PlK c W F g2 g3 slv i v wr ∧ StE True 78 (PlE c g2 g3 slv i) (And2 (PlF F g2 g3) (Sl v (((c.obs.take i).map obK).length * obL.n))) a wr
theorem take_map_succ {c : Cf} {i : Nat} {o : Ob} (h : c.obs[i]? = some o) : (c.obs.take (i + 1)).map obK = (c.obs.take i).map obK ++ [obK o] := by
  obtain ⟨hi, rfl⟩ := List.getElem?_eq_some_iff.1 h
  rw [List.take_succ_eq_append_getElem hi, List.map_append]
  rfl
set_option maxHeartbeats 1600000 in
set_option maxRecDepth 100000 in
theorem f45 {c : Cf} (hL : lightB c = true) : Fn True Try.prog 45 [.st plL c] (.st cfL (planC c)) := fn1 fun w F v0 h0 hF => by
  obtain ⟨hLs, hLn, hLo⟩ := light_len hL
  obtain ⟨i0, hi0, hz0, hz1, hz2⟩ := info_parts Try.info67s
  obtain ⟨i1, hj0, hj1, hj2, hj3⟩ := info_parts Try.info5
  obtain ⟨i2, hk0, hk1, hk2, hk3⟩ := info_parts Try.info64s
  obtain ⟨i3, hm0, hm1, hm2, hm3⟩ := info_parts Try.info145s
  go_enter Try.func45, Try.ntmps45
  refine wp_seq ?_
  refine flowN mixed (st0 (U := True) (N := 78) (e := [(0, true, .st plL c)]) (F := F) rfl rfl hF ⟨⟨rfl, h0⟩, True.intro⟩) (by kernel_rfl) (by kernel_rfl) (cc rfl (p_box bx_56 g0 (od rfl id))
      (ca rfl (m_alloc al_59 nu59) cn)) (by kernel_rfl) fun a1 w1 gs1 b1 s1 nd1 n1 m1 => ?_
  have z1 := b1
  obtain ⟨g2, rfl, p2, k2⟩ := made1 m1
  have hg2 := n1 g2 (by simp)
  have s1 := s1.more 2 (y := .val (.pointer (some ⟨g2, 0, none⟩))) p2
  refine wp_seq ?_
  refine flowH 11 mixed (s1.keep (sc 1 rfl (sc 2 rfl sn))) (by kernel_rfl) (by kernel_rfl) (cc rfl (p_fieldAddr pt56_0 fa_56_0 g0 (od rfl id))
      (cc rfl (p_loadI ld_3 g0 (od rfl id))
      (cc rfl (p_fieldAddr pt56_1 fa_56_1 g0 (od rfl id))
      (cc rfl (p_loadI ld_3 g0 (od rfl id))
      (cc rfl (p_fieldAddr pt56_2 fa_56_2 g0 (od rfl id))
      (cc rfl (p_loadI ld_3 g0 (od rfl id))
      (cc rfl (p_fieldAddr pt56_3 fa_56_3 g0 (od rfl id))
      (cc rfl (p_load1 rfl ld_53 g0 (od rfl id))
      (cc rfl (p_append0 slF Try.underlying53 hk0 hk1 hk2 hk3 rfl (by decide) (by decide) (by omega) g0 (od rfl id))
      (cc rfl (p_bd59_4 (y := .any) g0 (od rfl id) (od rfl id) (od rfl id) (opd_mono (od rfl id) fun h => ⟨True.intro, h⟩))
      (ca rfl (m_alloc al_59 nu59) cn))))))))))) (by kernel_rfl) fun a2 w2 gs2 b2 s2 nd2 n2 m2 => ?_
  have hg23 : g2 < w1.heap.size := k2.lt
  have z2 := z1.trans (b2.mono z1.size)
  have k2 := k2.below b2 k2.lt
  obtain ⟨g3, rfl, p3, k3⟩ := made1 m2
  have hg3 := n2 g3 (by simp)
  have s2 := s2.more 3 (y := .val (.pointer (some ⟨g3, 0, none⟩))) p3
  have hg3W := Nat.le_trans z1.size hg3
  show wpList _ _ _ (_ :: _) _ _
  refine store_U (L := cf0L) 3 16 s2 rfl rfl rfl rfl rfl k3 rfl sz_59 (fun _ => .inr (by simp)) nucf0 fun cs3 a3 w3 k3 _ hl3 G3 s3 => ?_
  have k2 := k2.grown G3 (by simp; omega)
  have z3 := z2.grown G3 z2.size (fun k e => by cases e; exact hg3W)
  obtain ⟨A3, n3, m3, rfl, hsl⟩ := cf0_cells hl3
  have s3 := s3.more 16 (y := .ghost (Lay.sl slotL) [.slice A3 n3 m3] c.sl) hsl
  refine wpList_done ?_
  refine wp_seq ?_
  refine wp_seq ?_
  refine flowC mixed (s3.keep (sc 1 rfl (sc 2 rfl (sc 3 rfl (sc 16 rfl sn))))) (by kernel_rfl) (by kernel_rfl) (cc rfl (p_fieldAddr pt56_4 fa_56_4 g0 (od rfl id))
      (cc rfl (p_load1 rfl ld_54 g0 (od rfl id))
      (cc rfl (p_len ln_54 g0 (od rfl id))
      (cc rfl (p_move g0 (oc _)) cn)))) fun a4 w4 b4 s4 => ?_
  have z4 := z3.trans (b4.mono z3.size)
  have k2 := k2.below b4 k2.lt
  have k3 := k3.below b4 k3.lt
  refine wp_block ?_
  have s4 := s4.less (F' := And2 (PlF F g2 g3) (Sl (.slice none 0 0) (((c.obs.take 0).map obK).length * obL.n))) (less_nil _)
  refine wp_count c.obs.length 20 (PlI c w F g2 g3 (.slice A3 n3 m3)) (fun _ _ _ ⟨_, _, h⟩ => h.get 20 rfl) ⟨_, ⟨k2, k3, GrowsL.nil, z4⟩, s4.to _ ⟨rfl, rfl, rfl, rfl, rfl, rfl, True.intro⟩⟩ fun i a5 w5 hi5 hI => ?_
  obtain ⟨v, ⟨k2, k3, gr, z5⟩, s5⟩ := hI
  refine wp_seq ?_
  refine flowC mixed (s5.keep (sc 2 rfl (sc 3 rfl (sc 16 rfl (sc 18 rfl (sc 19 rfl (sc 20 rfl sn))))))) (by kernel_rfl) (by kernel_rfl) (cc rfl (p_bin g0 (od rfl id) (od rfl id) b_lss_3) cn) fun a6 w6 b6 s6 => ?_
  have z6 := z5.trans (b6.mono z5.size)
  have k2 := k2.below b6 k2.lt
  have k3 := k3.below b6 k3.lt
  have gr := gr.below b6
  refine wp_seq ?_
  refine s6.cond 21 rfl (fun h21 => ?_) (fun h21 => ?_)
  · -- true
    have hlt : i < c.obs.length := by simpa using h21
    obtain ⟨o, eo⟩ : ∃ o, c.obs[i]? = some o := ⟨_, List.getElem?_eq_getElem hlt⟩
    obtain ⟨hd1, hd2⟩ := hLo o (List.mem_of_getElem? eo)
    refine wp_skip ?_
    refine wp_seq ?_
    refine wp_block ?_
    refine wp_seq ?_
    refine flowQ 3 mixed (s6.keep (sc 2 rfl (sc 3 rfl (sc 16 rfl (sc 18 rfl (sc 19 rfl (sc 20 rfl (sc 21 rfl sn)))))))) (by kernel_rfl) (by kernel_rfl) (cc rfl (p_index ix_54 eo g0 (od rfl id) (od rfl id))
        (cc rfl (p_load Try.underlying120 rfl sz_120 g0 (od rfl id))
        (ca rfl (m_alloc al_120 nu67) cn))) (by kernel_rfl) (ss rfl rfl rfl rfl puts_st sz_120 rfl rfl ss0) fun a7 w7 b7 s7 => ?_
    have z7 := z6.trans (b7.mono z6.size)
    have k2 := k2.below b7 k2.lt
    have k3 := k3.below b7 k3.lt
    have gr := gr.below b7
    refine wp_seq ?_
    refine flowH 9 mixed (s7.keep (sc 2 rfl (sc 3 rfl (sc 5 rfl (sc 16 rfl (sc 18 rfl (sc 19 rfl (sc 20 rfl (sc 21 rfl (sc 22 rfl (sc 23 rfl sn))))))))))) (by kernel_rfl) (by kernel_rfl) (cc rfl (p_fieldAddr pt120_0 fa_120_0 g0 (od rfl id))
        (cc rfl (p_loadI ld_3 g0 (od rfl id))
        (cc rfl (p_fieldAddr pt120_1 fa_120_1 g0 (od rfl id))
        (cc rfl (p_loadI ld_3 g0 (od rfl id))
        (cc rfl (p_fieldAddr pt120_2 fa_120_2 g0 (od rfl id))
        (cc rfl (p_load Try.underlying36 rfl sz_36 g0 (od rfl id))
        (cc rfl (p_call 36 g0 (ox (od rfl id) ox0) (fun _ _ => by kernel_rfl) f36)
        (cc rfl (p_bd67_3 g0 (od rfl id) (od rfl id) (od rfl id))
        (ca rfl (m_alloc al_67 nu67) cn))))))))) (by kernel_rfl) fun a8 w8 gs8 b8 s8 nd8 n8 m8 => ?_
    have hg2l : g2 < w7.heap.size := k2.lt
    have hg3l : g3 < w7.heap.size := k3.lt
    have z8 := z7.trans (b8.mono z7.size)
    obtain ⟨g6, rfl, p6, k6⟩ := made1 m8
    have hg6 := n8 g6 (by simp)
    have s8 := s8.more 6 (y := .val (.pointer (some ⟨g6, 0, none⟩))) p6
    have gr := gr.more (F1 := Also (PlF F g2 g3) [g6]) (fun k hk h => h.elim id (fun h => by have := List.mem_singleton.1 h; omega))
    have k2 := k2.below b8 k2.lt
    have k3 := k3.below b8 k3.lt
    have gr := gr.below b8
    have hg6W := Nat.le_trans z7.size hg6
    have s8 := s8.less (F' := And2 (Also (PlF F g2 g3) [g6]) (Sl v (((c.obs.take i).map obK).length * obL.n))) (fun k h => h.elim (fun h => h.elim (fun h => .inl (.inl h)) .inr) (fun h => .inl (.inr h)))
    show wpList _ _ _ (_ :: _) _ _
    refine store_U (L := obL) (x := ob0 o) 6 31 s8 rfl rfl rfl rfl rfl k6 rfl sz_67 (fun _ => .inl (.inr (by simp))) nuob fun cs6 a9 w9 k6 hs6 hL6 G9 s9 => ?_
    have gr := gr.wrote G9 (fun _ => .inr (by simp))
    have k2 := k2.grown G9 (by simp; omega)
    have k3 := k3.grown G9 (by simp; omega)
    have z9 := z8.grown G9 z8.size (fun k e => by cases e; exact hg6W)
    refine wpList_done ?_
    refine wp_seq ?_
    refine wp_seq ?_
    refine flowC mixed (s9.keep (sc 2 rfl (sc 3 rfl (sc 5 rfl (sc 6 rfl (sc 16 rfl (sc 18 rfl (sc 19 rfl (sc 20 rfl (sc 21 rfl (sc 22 rfl (sc 23 rfl (sc 24 rfl (sc 25 rfl (sc 26 rfl (sc 27 rfl (sc 28 rfl (sc 29 rfl (sc 30 rfl (sc 31 rfl sn)))))))))))))))))))) (by kernel_rfl) (by kernel_rfl) (cc rfl (p_fieldAddr pt120_0 fa_120_0 g0 (od rfl id))
        (cc rfl (p_loadI ld_3 g0 (od rfl id)) cn)) fun a10 w10 b10 s10 => ?_
    have z10 := z9.trans (b10.mono z9.size)
    have k2 := k2.below b10 k2.lt
    have k3 := k3.below b10 k3.lt
    have k6 := k6.below b10 k6.lt
    have gr := gr.below b10
    have hL6 := (obL).mono hL6 (.of b10) fun _ _ h => h
    refine wp_block ?_
    refine wp_seq ?_
    refine flowC mixed (s10.keep (sc 2 rfl (sc 3 rfl (sc 5 rfl (sc 6 rfl (sc 16 rfl (sc 18 rfl (sc 19 rfl (sc 20 rfl (sc 21 rfl (sc 22 rfl (sc 23 rfl (sc 24 rfl (sc 25 rfl (sc 26 rfl (sc 27 rfl (sc 28 rfl (sc 29 rfl (sc 30 rfl (sc 31 rfl (sc 32 rfl (sc 33 rfl sn)))))))))))))))))))))) (by kernel_rfl) (by kernel_rfl) (cc rfl (p_bin g0 (od rfl id) (oc _) b_eql_3)
        (cc rfl (p_assign g0 (od rfl id)) cn)) fun a11 w11 b11 s11 => ?_
    have z11 := z10.trans (b11.mono z10.size)
    have k2 := k2.below b11 k2.lt
    have k3 := k3.below b11 k3.lt
    have k6 := k6.below b11 k6.lt
    have gr := gr.below b11
    have hL6 := (obL).mono hL6 (.of b11) fun _ _ h => h
    refine s11.cond 34 rfl (fun h34 => ?_) (fun h34 => ?_)
    · -- true
      have p34 : o.k = 1 := by simpa using h34
      refine flowM 6 g6 _ (fun fl => if fl 5 = true then { ob0 o with pg := o.pg } else ob0 o) (ob0 o) { ob0 o with pg := o.pg } mixed (s11.keep (sc 2 rfl (sc 3 rfl (sc 5 rfl (sc 6 rfl (sc 16 rfl (sc 18 rfl (sc 19 rfl (sc 20 rfl (sc 21 rfl (sc 22 rfl (sc 23 rfl (sc 24 rfl (sc 25 rfl (sc 26 rfl (sc 27 rfl (sc 28 rfl (sc 29 rfl (sc 30 rfl (sc 31 rfl (sc 32 rfl (sc 33 rfl (sc 34 rfl (sc 35 rfl sn)))))))))))))))))))))))) (fun _ => .inl (.inr (by simp))) k6 hL6 (by kernel_rfl) (by kernel_rfl) (cc rfl (p_fieldAddr pt120_4 fa_120_4 g0 (od rfl id))
          (cc rfl (p_loadI ld_3 g0 (od rfl id))
          (cc rfl (p_fieldAddr pt120_5 fa_120_5 g0 (od rfl id))
          (cc rfl (p_loadI ld_3 g0 (od rfl id))
          (cc rfl (p_faV0 fa_67_4 g0 (od rfl id))
          (cs rfl cn)))))) (am (fm (m := 5) (t := 40) (s := 37) (L' := (Lay.int .i64)) rfl rfl rfl rfl sz_3 pw67_4 sto_int) am0) (fun fl h => ?h0_12) (fun fl h => ?h1_12) (fun fl => ?hX_12) (fun fl i h => ?hX2_12) rfl (fun u fl {_ _ _} h => nuob u h) (fun a12 w12 cs6 G12 k6 hL6 s12 => ?hQ_12)
      case h0_12 =>
        have e5 : fl 5 = false := h _ List.mem_cons_self
        simp [e5]
      case h1_12 =>
        have e5 : fl 5 = true := h _ List.mem_cons_self
        simp [e5]
      case hX_12 =>
        exact ⟨fun h => by have h : fl 5 = false := h; simp [h], True.intro⟩
      case hX2_12 =>
        have e5 : 5 ≠ i := h _ List.mem_cons_self
        simp [e5]
      case hQ_12 =>
        have gr := gr.wrote G12 (fun _ => .inr (by simp))
        have k2 := k2.grown G12 (by simp; omega)
        have k3 := k3.grown G12 (by simp; omega)
        have z12 := z11.grown G12 z11.size (fun k e => by cases e; exact hg6W)
        refine chainK 1 (cc rfl (p_faV0 fa_67_5 g0 (od rfl id)) cn) (by kernel_rfl) s12 fun a13 w13 b13 s13 => ?_
        have z13 := z12.trans (b13.mono z12.size)
        have k2 := k2.below b13 k2.lt
        have k3 := k3.below b13 k3.lt
        have k6 := k6.below b13 k6.lt
        have gr := gr.below b13
        have hL6 := (obL).mono hL6 (.of b13) fun _ _ h => h
        show wpList _ _ _ (_ :: _) _ _
        refine fld_step (L := obL) (L' := Lay.int .i64) s13 rfl rfl rfl (od rfl id) (od rfl id) sto_int k6 hL6 pw67_5 sz_3 (fun _ => .inl (.inr (by simp))) nuob fun cs6 a14 w14 k6 hL6 G14 s14 => ?_
        have gr := gr.wrote G14 (fun _ => .inr (by simp))
        have k2 := k2.grown G14 (by simp; omega)
        have k3 := k3.grown G14 (by simp; omega)
        have z14 := z13.grown G14 z13.size (fun k e => by cases e; exact hg6W)
        refine wpList_done ?_
        refine wp_region_lit ?_
        refine chainK 1 (cc rfl (p_faV0 fa_59_4 g0 (od rfl id)) cn) (by kernel_rfl) (s14.keep (sc 2 rfl (sc 3 rfl (sc 6 rfl (sc 16 rfl (sc 18 rfl (sc 19 rfl (sc 20 rfl sn)))))))) fun a15 w15 b15 s15 => ?_
        have z15 := z14.trans (b15.mono z14.size)
        have k2 := k2.below b15 k2.lt
        have k3 := k3.below b15 k3.lt
        have k6 := k6.below b15 k6.lt
        have gr := gr.below b15
        have hL6 := (obL).mono hL6 (.of b15) fun _ _ h => h
        show wpList _ _ _ (_ :: _) _ _
        have eK : obK o = ⟨o.k, o.par, o.lab, ⟨0, []⟩, o.pg, o.nm, [], [], 0, 0⟩ := by unfold obK; rw [if_pos p34]
        have hL6 : obL.on w15 (And2 (Also (PlF F g2 g3) [g6]) (Sl v (((c.obs.take i).map obK).length * obL.n))) cs6.toList (obK o) := by rw [eK]; exact hL6
        refine ldcell_on (k := 4) (v := v) (y := .any) s15 rfl (by decide) rfl (fun ev w b off v h1 h2 => ld_57 ev w b off v h1 h2) (od rfl id) k3 rfl True.intro fun a16 s16 => ?_
        have z16 := z15
        show wpList _ _ _ (_ :: _) _ _
        refine ldrow_on (L := obL) s16 rfl rfl (by decide) rfl (od rfl id) k6 hL6 u_67 ur_67 sz_67 fun a17 s17 => ?_
        have z17 := z16
        have gr := gr.less (F1 := PlF F g2 g3) (fun _ h => .inl h)
        have s17 := s17.less (F' := And2 (PlF F g2 g3) (Sl v (((c.obs.take i).map obK).length * obL.n))) (fun k h => h.elim (fun h => .inl (.inl h)) .inr)
        refine chainK 1 (cc rfl (p_litL bs_57 g0 (od2 rfl id)) cn) (by kernel_rfl) s17 fun a18 w18 b18 s18 => ?_
        have z18 := z17.trans (b18.mono z17.size)
        have k2 := k2.below b18 k2.lt
        have k3 := k3.below b18 k3.lt
        have gr := gr.below b18
        show wpList _ _ _ (_ :: _) _ _
        obtain ⟨csr, hro, _⟩ := gr.row
        have hn3 := own_ne hro k3 (by decide)
        have hn2 := own_ne hro k2 (by decide)
        have hlen : ((c.obs.take i).map obK).length ≤ 3000 := by rw [List.length_map, List.length_take]; omega
        refine growL_step (B := w.heap.size) 71 73 s18 gr rfl rfl (by decide) rfl Try.underlying57 hi0 hz0 hz1 hz2 rfl (by decide) rfl rfl z18.size (by unfold maxLen; omega) (by omega) (fun _ y => by simp [Value.cells]) nuob fun v2 a19 w19 gr2 G19 eo19 s19 => ?_
        have k3 := k3.grown G19 hn3
        have k2 := k2.grown G19 hn2
        have z19 := z18.grown G19 z18.size (fun k e => (gr.lt e).1)
        refine chainK 1 (cc rfl (p_faV0 fa_59_4 g0 (od rfl id)) cn) (by kernel_rfl) s19 fun a20 w20 b20 s20 => ?_
        have z20 := z19.trans (b20.mono z19.size)
        have k2 := k2.below b20 k2.lt
        have k3 := k3.below b20 k3.lt
        have gr2 := gr2.below b20
        show wpList _ _ _ (_ :: _) _ _
        obtain ⟨csr2, hro2, _⟩ := gr2.row
        refine cell_W s20 rfl rfl rfl (od rfl id) (opd_mono (od rfl id) fun h => h.1) k3 (by simp) (slice_one hro2).2 (by kernel_rfl) (slice_one hro2).1 (fun _ => .inl (.inr (by simp))) (fun _ => by obtain ⟨A, m, cp, rfl⟩ := own_sl hro2; exact nou59p _ _ _ _ _ _ _ _ _) fun a21 w21 k3 G21 s21 => ?_
        have k3 : Blk w21 g3 59 #[.int .i64 c.co, .int .i64 c.fr, .int .i64 c.nm, .slice A3 n3 m3, v2] := k3
        have k2 := k2.grown G21 (by simp; omega)
        have gr2 := gr2.wrote G21 (fun _ => .inr (by simp))
        have z21 := z20.grown G21 z20.size (fun k e => by cases e; exact hg3W)
        refine wpList_done ?_
        refine flowT (s21.keep (sc 2 rfl (sc 3 rfl (sc 6 rfl (sc 16 rfl (sc 18 rfl (sc 19 rfl (sc 20 rfl (sc 70 rfl (sc 71 rfl (sc 72 rfl (sc 73 rfl (sc 74 rfl (sc 75 rfl sn)))))))))))))) (by kernel_rfl) (cc rfl (p_bin g0 (od rfl id) (oc _) (inc_3 (by omega)))
            (cc rfl (p_move g0 (od rfl id)) cn)) fun a22 w22 b22 s22 => ?_
        have z22 := z21.trans (b22.mono z21.size)
        have k2 := k2.below b22 k2.lt
        have k3 := k3.below b22 k3.lt
        have gr2 := gr2.below b22
        exact ⟨hlt, v2, ⟨k2, k3, by rw [take_map_succ eo]; exact gr2, z22⟩, by rw [take_map_succ eo]; exact s22.to _ ⟨rfl, rfl, rfl, rfl, rfl, rfl, True.intro⟩⟩
    · -- false
      have p34 : ¬ o.k = 1 := by simpa using h34
      refine wp_seq ?_
      refine flowC mixed (s11.keep (sc 2 rfl (sc 3 rfl (sc 5 rfl (sc 6 rfl (sc 16 rfl (sc 18 rfl (sc 19 rfl (sc 20 rfl (sc 21 rfl (sc 22 rfl (sc 23 rfl (sc 24 rfl (sc 25 rfl (sc 26 rfl (sc 27 rfl (sc 28 rfl (sc 29 rfl (sc 30 rfl (sc 31 rfl (sc 32 rfl (sc 33 rfl (sc 34 rfl (sc 35 rfl sn)))))))))))))))))))))))) (by kernel_rfl) (by kernel_rfl) (cc rfl (p_bin g0 (od rfl id) (oc _) b_eql_3)
          (cc rfl (p_assign g0 (od rfl id)) cn)) fun a23 w23 b23 s23 => ?_
      have z23 := z11.trans (b23.mono z11.size)
      have k2 := k2.below b23 k2.lt
      have k3 := k3.below b23 k3.lt
      have k6 := k6.below b23 k6.lt
      have gr := gr.below b23
      have hL6 := (obL).mono hL6 (.of b23) fun _ _ h => h
      refine s23.cond 42 rfl (fun h42 => ?_) (fun h42 => ?_)
      · -- true
        have p42 : o.k = 2 := by simpa using h42
        refine flowM 7 g6 _ (fun fl => if fl 6 = true then { ob0 o with pg := o.pg } else ob0 o) (ob0 o) { ob0 o with pg := o.pg } mixed (s23.keep (sc 2 rfl (sc 3 rfl (sc 5 rfl (sc 6 rfl (sc 16 rfl (sc 18 rfl (sc 19 rfl (sc 20 rfl (sc 21 rfl (sc 22 rfl (sc 23 rfl (sc 24 rfl (sc 25 rfl (sc 26 rfl (sc 27 rfl (sc 28 rfl (sc 29 rfl (sc 30 rfl (sc 31 rfl (sc 32 rfl (sc 33 rfl (sc 34 rfl (sc 35 rfl (sc 42 rfl (sc 43 rfl sn)))))))))))))))))))))))))) (fun _ => .inl (.inr (by simp))) k6 hL6 (by kernel_rfl) (by kernel_rfl) (cc rfl (p_fieldAddr pt120_4 fa_120_4 g0 (od rfl id))
            (cc rfl (p_loadI ld_3 g0 (od rfl id))
            (cc rfl (p_fieldAddr pt120_6 fa_120_6 g0 (od rfl id))
            (cc rfl (p_load1 rfl ld_22 g0 (od rfl id))
            (cc rfl (p_append0 byF Try.underlying22 hj0 hj1 hj2 hj3 rfl (by decide) (by decide) (by omega) g0 (od rfl id))
            (cc rfl (p_faV0 fa_67_4 g0 (od rfl id))
            (cs rfl cn))))))) (am (fm (m := 6) (t := 49) (s := 45) (L' := (Lay.int .i64)) rfl rfl rfl rfl sz_3 pw67_4 sto_int) am0) (fun fl h => ?h0_24) (fun fl h => ?h1_24) (fun fl => ?hX_24) (fun fl i h => ?hX2_24) rfl (fun u fl {_ _ _} h => nuob u h) (fun a24 w24 cs6 G24 k6 hL6 s24 => ?hQ_24)
        case h0_24 =>
          have e6 : fl 6 = false := h _ List.mem_cons_self
          simp [e6]
        case h1_24 =>
          have e6 : fl 6 = true := h _ List.mem_cons_self
          simp [e6]
        case hX_24 =>
          exact ⟨fun h => by have h : fl 6 = false := h; simp [h], True.intro⟩
        case hX2_24 =>
          have e6 : 6 ≠ i := h _ List.mem_cons_self
          simp [e6]
        case hQ_24 =>
          have gr := gr.wrote G24 (fun _ => .inr (by simp))
          have k2 := k2.grown G24 (by simp; omega)
          have k3 := k3.grown G24 (by simp; omega)
          have z24 := z23.grown G24 z23.size (fun k e => by cases e; exact hg6W)
          refine chainK 1 (cc rfl (p_faV0 fa_67_6 g0 (od rfl id)) cn) (by kernel_rfl) s24 fun a25 w25 b25 s25 => ?_
          have z25 := z24.trans (b25.mono z24.size)
          have k2 := k2.below b25 k2.lt
          have k3 := k3.below b25 k3.lt
          have k6 := k6.below b25 k6.lt
          have gr := gr.below b25
          have hL6 := (obL).mono hL6 (.of b25) fun _ _ h => h
          show wpList _ _ _ (_ :: _) _ _
          refine fld_step (L := obL) (L' := Lay.sl byL) s25 rfl rfl rfl (od rfl id) (od rfl id) sto_one k6 hL6 pw67_6 sz_22 (fun _ => .inl (.inr (by simp))) nuob fun cs6 a26 w26 k6 hL6 G26 s26 => ?_
          have gr := gr.wrote G26 (fun _ => .inr (by simp))
          have k2 := k2.grown G26 (by simp; omega)
          have k3 := k3.grown G26 (by simp; omega)
          have z26 := z25.grown G26 z25.size (fun k e => by cases e; exact hg6W)
          refine wpList_done ?_
          refine wp_region_lit ?_
          refine chainK 1 (cc rfl (p_faV0 fa_59_4 g0 (od rfl id)) cn) (by kernel_rfl) (s26.keep (sc 2 rfl (sc 3 rfl (sc 6 rfl (sc 16 rfl (sc 18 rfl (sc 19 rfl (sc 20 rfl sn)))))))) fun a27 w27 b27 s27 => ?_
          have z27 := z26.trans (b27.mono z26.size)
          have k2 := k2.below b27 k2.lt
          have k3 := k3.below b27 k3.lt
          have k6 := k6.below b27 k6.lt
          have gr := gr.below b27
          have hL6 := (obL).mono hL6 (.of b27) fun _ _ h => h
          show wpList _ _ _ (_ :: _) _ _
          have eK : obK o = ⟨o.k, o.par, o.lab, ⟨0, []⟩, o.pg, 0, o.dat, [], 0, 0⟩ := by unfold obK; rw [if_neg p34, if_pos p42]
          have hL6 : obL.on w27 (And2 (Also (PlF F g2 g3) [g6]) (Sl v (((c.obs.take i).map obK).length * obL.n))) cs6.toList (obK o) := by rw [eK]; exact hL6
          refine ldcell_on (k := 4) (v := v) (y := .any) s27 rfl (by decide) rfl (fun ev w b off v h1 h2 => ld_57 ev w b off v h1 h2) (od rfl id) k3 rfl True.intro fun a28 s28 => ?_
          have z28 := z27
          show wpList _ _ _ (_ :: _) _ _
          refine ldrow_on (L := obL) s28 rfl rfl (by decide) rfl (od rfl id) k6 hL6 u_67 ur_67 sz_67 fun a29 s29 => ?_
          have z29 := z28
          have gr := gr.less (F1 := PlF F g2 g3) (fun _ h => .inl h)
          have s29 := s29.less (F' := And2 (PlF F g2 g3) (Sl v (((c.obs.take i).map obK).length * obL.n))) (fun k h => h.elim (fun h => .inl (.inl h)) .inr)
          refine chainK 1 (cc rfl (p_litL bs_57 g0 (od2 rfl id)) cn) (by kernel_rfl) s29 fun a30 w30 b30 s30 => ?_
          have z30 := z29.trans (b30.mono z29.size)
          have k2 := k2.below b30 k2.lt
          have k3 := k3.below b30 k3.lt
          have gr := gr.below b30
          show wpList _ _ _ (_ :: _) _ _
          obtain ⟨csr, hro, _⟩ := gr.row
          have hn3 := own_ne hro k3 (by decide)
          have hn2 := own_ne hro k2 (by decide)
          have hlen : ((c.obs.take i).map obK).length ≤ 3000 := by rw [List.length_map, List.length_take]; omega
          refine growL_step (B := w.heap.size) 71 73 s30 gr rfl rfl (by decide) rfl Try.underlying57 hi0 hz0 hz1 hz2 rfl (by decide) rfl rfl z30.size (by unfold maxLen; omega) (by omega) (fun _ y => by simp [Value.cells]) nuob fun v2 a31 w31 gr2 G31 eo31 s31 => ?_
          have k3 := k3.grown G31 hn3
          have k2 := k2.grown G31 hn2
          have z31 := z30.grown G31 z30.size (fun k e => (gr.lt e).1)
          refine chainK 1 (cc rfl (p_faV0 fa_59_4 g0 (od rfl id)) cn) (by kernel_rfl) s31 fun a32 w32 b32 s32 => ?_
          have z32 := z31.trans (b32.mono z31.size)
          have k2 := k2.below b32 k2.lt
          have k3 := k3.below b32 k3.lt
          have gr2 := gr2.below b32
          show wpList _ _ _ (_ :: _) _ _
          obtain ⟨csr2, hro2, _⟩ := gr2.row
          refine cell_W s32 rfl rfl rfl (od rfl id) (opd_mono (od rfl id) fun h => h.1) k3 (by simp) (slice_one hro2).2 (by kernel_rfl) (slice_one hro2).1 (fun _ => .inl (.inr (by simp))) (fun _ => by obtain ⟨A, m, cp, rfl⟩ := own_sl hro2; exact nou59p _ _ _ _ _ _ _ _ _) fun a33 w33 k3 G33 s33 => ?_
          have k3 : Blk w33 g3 59 #[.int .i64 c.co, .int .i64 c.fr, .int .i64 c.nm, .slice A3 n3 m3, v2] := k3
          have k2 := k2.grown G33 (by simp; omega)
          have gr2 := gr2.wrote G33 (fun _ => .inr (by simp))
          have z33 := z32.grown G33 z32.size (fun k e => by cases e; exact hg3W)
          refine wpList_done ?_
          refine flowT (s33.keep (sc 2 rfl (sc 3 rfl (sc 6 rfl (sc 16 rfl (sc 18 rfl (sc 19 rfl (sc 20 rfl (sc 70 rfl (sc 71 rfl (sc 72 rfl (sc 73 rfl (sc 74 rfl (sc 75 rfl sn)))))))))))))) (by kernel_rfl) (cc rfl (p_bin g0 (od rfl id) (oc _) (inc_3 (by omega)))
              (cc rfl (p_move g0 (od rfl id)) cn)) fun a34 w34 b34 s34 => ?_
          have z34 := z33.trans (b34.mono z33.size)
          have k2 := k2.below b34 k2.lt
          have k3 := k3.below b34 k3.lt
          have gr2 := gr2.below b34
          exact ⟨hlt, v2, ⟨k2, k3, by rw [take_map_succ eo]; exact gr2, z34⟩, by rw [take_map_succ eo]; exact s34.to _ ⟨rfl, rfl, rfl, rfl, rfl, rfl, True.intro⟩⟩
      · -- false
        have p42 : ¬ o.k = 2 := by simpa using h42
        refine wp_seq ?_
        refine flowC mixed (s23.keep (sc 2 rfl (sc 3 rfl (sc 5 rfl (sc 6 rfl (sc 16 rfl (sc 18 rfl (sc 19 rfl (sc 20 rfl (sc 21 rfl (sc 22 rfl (sc 23 rfl (sc 24 rfl (sc 25 rfl (sc 26 rfl (sc 27 rfl (sc 28 rfl (sc 29 rfl (sc 30 rfl (sc 31 rfl (sc 32 rfl (sc 33 rfl (sc 34 rfl (sc 35 rfl (sc 42 rfl (sc 43 rfl sn)))))))))))))))))))))))))) (by kernel_rfl) (by kernel_rfl) (cc rfl (p_bin g0 (od rfl id) (oc _) b_eql_3)
            (cc rfl (p_assign g0 (od rfl id)) cn)) fun a35 w35 b35 s35 => ?_
        have z35 := z23.trans (b35.mono z23.size)
        have k2 := k2.below b35 k2.lt
        have k3 := k3.below b35 k3.lt
        have k6 := k6.below b35 k6.lt
        have gr := gr.below b35
        have hL6 := (obL).mono hL6 (.of b35) fun _ _ h => h
        refine s35.cond 51 rfl (fun h51 => ?_) (fun h51 => ?_)
        · -- true
          have p51 : o.k = 4 := by simpa using h51
          refine wp_region_lit ?_
          refine chainK 4 (cc rfl (p_fieldAddr pt120_7 fa_120_7 g0 (od rfl id))
              (cc rfl (p_load1 rfl ld_65 g0 (od rfl id))
              (cc rfl (p_append0 mapF Try.underlying65 hm0 hm1 hm2 hm3 rfl (by decide) (by decide) (by omega) g0 (od rfl id))
              (cc rfl (p_faV0 fa_67_7 g0 (od rfl id)) cn)))) (by kernel_rfl) (s35.keep (sc 2 rfl (sc 3 rfl (sc 5 rfl (sc 6 rfl (sc 16 rfl (sc 18 rfl (sc 19 rfl (sc 20 rfl (sc 21 rfl (sc 22 rfl (sc 23 rfl (sc 24 rfl (sc 25 rfl (sc 26 rfl (sc 27 rfl (sc 28 rfl (sc 29 rfl (sc 30 rfl (sc 31 rfl (sc 32 rfl (sc 33 rfl (sc 34 rfl (sc 35 rfl (sc 42 rfl (sc 43 rfl (sc 51 rfl (sc 52 rfl sn)))))))))))))))))))))))))))) fun a36 w36 b36 s36 => ?_
          have z36 := z35.trans (b36.mono z35.size)
          have k2 := k2.below b36 k2.lt
          have k3 := k3.below b36 k3.lt
          have k6 := k6.below b36 k6.lt
          have gr := gr.below b36
          have hL6 := (obL).mono hL6 (.of b36) fun _ _ h => h
          show wpList _ _ _ (_ :: _) _ _
          refine fld_step (L := obL) (L' := Lay.sl mapL) s36 rfl rfl rfl (od rfl id) (od rfl id) sto_one k6 hL6 pw67_7 sz_65 (fun _ => .inl (.inr (by simp))) nuob fun cs6 a37 w37 k6 hL6 G37 s37 => ?_
          have gr := gr.wrote G37 (fun _ => .inr (by simp))
          have k2 := k2.grown G37 (by simp; omega)
          have k3 := k3.grown G37 (by simp; omega)
          have z37 := z36.grown G37 z36.size (fun k e => by cases e; exact hg6W)
          refine wpList_done ?_
          refine wp_region_lit ?_
          refine chainK 1 (cc rfl (p_faV0 fa_59_4 g0 (od rfl id)) cn) (by kernel_rfl) (s37.keep (sc 2 rfl (sc 3 rfl (sc 6 rfl (sc 16 rfl (sc 18 rfl (sc 19 rfl (sc 20 rfl sn)))))))) fun a38 w38 b38 s38 => ?_
          have z38 := z37.trans (b38.mono z37.size)
          have k2 := k2.below b38 k2.lt
          have k3 := k3.below b38 k3.lt
          have k6 := k6.below b38 k6.lt
          have gr := gr.below b38
          have hL6 := (obL).mono hL6 (.of b38) fun _ _ h => h
          show wpList _ _ _ (_ :: _) _ _
          have eK : obK o = ⟨o.k, o.par, o.lab, ⟨0, []⟩, 0, 0, [], o.mps, 0, 0⟩ := by unfold obK; rw [if_neg p34, if_neg p42, if_pos p51]
          have hL6 : obL.on w38 (And2 (Also (PlF F g2 g3) [g6]) (Sl v (((c.obs.take i).map obK).length * obL.n))) cs6.toList (obK o) := by rw [eK]; exact hL6
          refine ldcell_on (k := 4) (v := v) (y := .any) s38 rfl (by decide) rfl (fun ev w b off v h1 h2 => ld_57 ev w b off v h1 h2) (od rfl id) k3 rfl True.intro fun a39 s39 => ?_
          have z39 := z38
          show wpList _ _ _ (_ :: _) _ _
          refine ldrow_on (L := obL) s39 rfl rfl (by decide) rfl (od rfl id) k6 hL6 u_67 ur_67 sz_67 fun a40 s40 => ?_
          have z40 := z39
          have gr := gr.less (F1 := PlF F g2 g3) (fun _ h => .inl h)
          have s40 := s40.less (F' := And2 (PlF F g2 g3) (Sl v (((c.obs.take i).map obK).length * obL.n))) (fun k h => h.elim (fun h => .inl (.inl h)) .inr)
          refine chainK 1 (cc rfl (p_litL bs_57 g0 (od2 rfl id)) cn) (by kernel_rfl) s40 fun a41 w41 b41 s41 => ?_
          have z41 := z40.trans (b41.mono z40.size)
          have k2 := k2.below b41 k2.lt
          have k3 := k3.below b41 k3.lt
          have gr := gr.below b41
          show wpList _ _ _ (_ :: _) _ _
          obtain ⟨csr, hro, _⟩ := gr.row
          have hn3 := own_ne hro k3 (by decide)
          have hn2 := own_ne hro k2 (by decide)
          have hlen : ((c.obs.take i).map obK).length ≤ 3000 := by rw [List.length_map, List.length_take]; omega
          refine growL_step (B := w.heap.size) 71 73 s41 gr rfl rfl (by decide) rfl Try.underlying57 hi0 hz0 hz1 hz2 rfl (by decide) rfl rfl z41.size (by unfold maxLen; omega) (by omega) (fun _ y => by simp [Value.cells]) nuob fun v2 a42 w42 gr2 G42 eo42 s42 => ?_
          have k3 := k3.grown G42 hn3
          have k2 := k2.grown G42 hn2
          have z42 := z41.grown G42 z41.size (fun k e => (gr.lt e).1)
          refine chainK 1 (cc rfl (p_faV0 fa_59_4 g0 (od rfl id)) cn) (by kernel_rfl) s42 fun a43 w43 b43 s43 => ?_
          have z43 := z42.trans (b43.mono z42.size)
          have k2 := k2.below b43 k2.lt
          have k3 := k3.below b43 k3.lt
          have gr2 := gr2.below b43
          show wpList _ _ _ (_ :: _) _ _
          obtain ⟨csr2, hro2, _⟩ := gr2.row
          refine cell_W s43 rfl rfl rfl (od rfl id) (opd_mono (od rfl id) fun h => h.1) k3 (by simp) (slice_one hro2).2 (by kernel_rfl) (slice_one hro2).1 (fun _ => .inl (.inr (by simp))) (fun _ => by obtain ⟨A, m, cp, rfl⟩ := own_sl hro2; exact nou59p _ _ _ _ _ _ _ _ _) fun a44 w44 k3 G44 s44 => ?_
          have k3 : Blk w44 g3 59 #[.int .i64 c.co, .int .i64 c.fr, .int .i64 c.nm, .slice A3 n3 m3, v2] := k3
          have k2 := k2.grown G44 (by simp; omega)
          have gr2 := gr2.wrote G44 (fun _ => .inr (by simp))
          have z44 := z43.grown G44 z43.size (fun k e => by cases e; exact hg3W)
          refine wpList_done ?_
          refine flowT (s44.keep (sc 2 rfl (sc 3 rfl (sc 6 rfl (sc 16 rfl (sc 18 rfl (sc 19 rfl (sc 20 rfl (sc 70 rfl (sc 71 rfl (sc 72 rfl (sc 73 rfl (sc 74 rfl (sc 75 rfl sn)))))))))))))) (by kernel_rfl) (cc rfl (p_bin g0 (od rfl id) (oc _) (inc_3 (by omega)))
              (cc rfl (p_move g0 (od rfl id)) cn)) fun a45 w45 b45 s45 => ?_
          have z45 := z44.trans (b45.mono z44.size)
          have k2 := k2.below b45 k2.lt
          have k3 := k3.below b45 k3.lt
          have gr2 := gr2.below b45
          exact ⟨hlt, v2, ⟨k2, k3, by rw [take_map_succ eo]; exact gr2, z45⟩, by rw [take_map_succ eo]; exact s45.to _ ⟨rfl, rfl, rfl, rfl, rfl, rfl, True.intro⟩⟩
        · -- false
          have p51 : ¬ o.k = 4 := by simpa using h51
          refine wp_seq ?_
          refine wp_seq ?_
          refine flowC mixed (s35.keep (sc 2 rfl (sc 3 rfl (sc 5 rfl (sc 6 rfl (sc 16 rfl (sc 18 rfl (sc 19 rfl (sc 20 rfl (sc 21 rfl (sc 22 rfl (sc 23 rfl (sc 24 rfl (sc 25 rfl (sc 26 rfl (sc 27 rfl (sc 28 rfl (sc 29 rfl (sc 30 rfl (sc 31 rfl (sc 32 rfl (sc 33 rfl (sc 34 rfl (sc 35 rfl (sc 42 rfl (sc 43 rfl (sc 51 rfl (sc 52 rfl sn)))))))))))))))))))))))))))) (by kernel_rfl) (by kernel_rfl) (cc rfl (p_bin g0 (od rfl id) (oc _) b_eql_3)
              (cc rfl (p_assign g0 (od rfl id)) cn)) fun a46 w46 b46 s46 => ?_
          have z46 := z35.trans (b46.mono z35.size)
          have k2 := k2.below b46 k2.lt
          have k3 := k3.below b46 k3.lt
          have k6 := k6.below b46 k6.lt
          have gr := gr.below b46
          have hL6 := (obL).mono hL6 (.of b46) fun _ _ h => h
          refine s46.cond 57 rfl (fun h57 => ?_) (fun h57 => ?_)
          · -- true
            have p57 : o.k = 3 := by simpa using h57
            refine wp_skip ?_
            refine s46.cond 57 rfl (fun _ => ?_) (fun h => absurd h (by rw [h57]; simp))
            refine flowM 11 g6 _ (fun fl => if fl 8 = true then (if fl 10 = true then { ob0 o with clr := o.clr, sp := o.sp } else { ob0 o with clr := o.clr }) else (if fl 10 = true then { ob0 o with sp := o.sp } else ob0 o)) (ob0 o) { ob0 o with clr := o.clr, sp := o.sp } mixed (s46.keep (sc 2 rfl (sc 3 rfl (sc 5 rfl (sc 6 rfl (sc 16 rfl (sc 18 rfl (sc 19 rfl (sc 20 rfl (sc 21 rfl (sc 22 rfl (sc 23 rfl (sc 24 rfl (sc 25 rfl (sc 26 rfl (sc 27 rfl (sc 28 rfl (sc 29 rfl (sc 30 rfl (sc 31 rfl (sc 32 rfl (sc 33 rfl (sc 34 rfl (sc 35 rfl (sc 42 rfl (sc 43 rfl (sc 51 rfl (sc 52 rfl (sc 57 rfl (sc 58 rfl sn)))))))))))))))))))))))))))))) (fun _ => .inl (.inr (by simp))) k6 hL6 (by kernel_rfl) (by kernel_rfl) (cc rfl (p_fieldAddr pt120_3 fa_120_3 g0 (od rfl id))
                (cc rfl (p_load Try.underlying36 rfl sz_36 g0 (od rfl id))
                (cc rfl (p_call 36 g0 (ox (od rfl id) ox0) (fun _ _ => by kernel_rfl) f36)
                (cc rfl (p_fieldAddr pt120_8 fa_120_8 g0 (od rfl id))
                (cc rfl (p_loadI ld_3 g0 (od rfl id))
                (cc rfl (p_fieldAddr pt120_9 fa_120_9 g0 (od rfl id))
                (cc rfl (p_loadI ld_3 g0 (od rfl id))
                (cc rfl (p_faV0 fa_67_3 g0 (od rfl id))
                (cs rfl
                (cc rfl (p_faV0 fa_67_8 g0 (od rfl id))
                (cs rfl cn))))))))))) (am (fm (m := 8) (t := 67) (s := 62) (L' := (labL 12)) rfl rfl rfl rfl sz_39 pw67_3 sto_st) (am (fm (m := 10) (t := 68) (s := 64) (L' := (Lay.int .i64)) rfl rfl rfl rfl sz_3 pw67_8 sto_int) am0)) (fun fl h => ?h0_47) (fun fl h => ?h1_47) (fun fl => ?hX_47) (fun fl i h => ?hX2_47) rfl (fun u fl {_ _ _} h => nuob u h) (fun a47 w47 cs6 G47 k6 hL6 s47 => ?hQ_47)
            case h0_47 =>
              have e8 : fl 8 = false := h _ List.mem_cons_self
              have e10 : fl 10 = false := h _ (List.mem_cons_of_mem _ List.mem_cons_self)
              simp [e8, e10]
            case h1_47 =>
              have e8 : fl 8 = true := h _ List.mem_cons_self
              have e10 : fl 10 = true := h _ (List.mem_cons_of_mem _ List.mem_cons_self)
              simp [e8, e10]
            case hX_47 =>
              exact ⟨fun h => by have h : fl 8 = false := h; cases h10 : fl 10 <;> simp [h, h10], fun h => by have h : fl 10 = false := h; cases h8 : fl 8 <;> simp [h, h8], True.intro⟩
            case hX2_47 =>
              have e8 : 8 ≠ i := h _ List.mem_cons_self
              have e10 : 10 ≠ i := h _ (List.mem_cons_of_mem _ List.mem_cons_self)
              simp [e8, e10]
            case hQ_47 =>
              have gr := gr.wrote G47 (fun _ => .inr (by simp))
              have k2 := k2.grown G47 (by simp; omega)
              have k3 := k3.grown G47 (by simp; omega)
              have z47 := z46.grown G47 z46.size (fun k e => by cases e; exact hg6W)
              refine chainK 1 (cc rfl (p_faV0 fa_67_9 g0 (od rfl id)) cn) (by kernel_rfl) s47 fun a48 w48 b48 s48 => ?_
              have z48 := z47.trans (b48.mono z47.size)
              have k2 := k2.below b48 k2.lt
              have k3 := k3.below b48 k3.lt
              have k6 := k6.below b48 k6.lt
              have gr := gr.below b48
              have hL6 := (obL).mono hL6 (.of b48) fun _ _ h => h
              show wpList _ _ _ (_ :: _) _ _
              refine fld_step (L := obL) (L' := Lay.int .i64) s48 rfl rfl rfl (od rfl id) (od rfl id) sto_int k6 hL6 pw67_9 sz_3 (fun _ => .inl (.inr (by simp))) nuob fun cs6 a49 w49 k6 hL6 G49 s49 => ?_
              have gr := gr.wrote G49 (fun _ => .inr (by simp))
              have k2 := k2.grown G49 (by simp; omega)
              have k3 := k3.grown G49 (by simp; omega)
              have z49 := z48.grown G49 z48.size (fun k e => by cases e; exact hg6W)
              refine wpList_done ?_
              refine wp_region_lit ?_
              refine chainK 1 (cc rfl (p_faV0 fa_59_4 g0 (od rfl id)) cn) (by kernel_rfl) (s49.keep (sc 2 rfl (sc 3 rfl (sc 6 rfl (sc 16 rfl (sc 18 rfl (sc 19 rfl (sc 20 rfl sn)))))))) fun a50 w50 b50 s50 => ?_
              have z50 := z49.trans (b50.mono z49.size)
              have k2 := k2.below b50 k2.lt
              have k3 := k3.below b50 k3.lt
              have k6 := k6.below b50 k6.lt
              have gr := gr.below b50
              have hL6 := (obL).mono hL6 (.of b50) fun _ _ h => h
              show wpList _ _ _ (_ :: _) _ _
              have eK : obK o = ⟨o.k, o.par, o.lab, o.clr, 0, 0, [], [], o.sp, o.pc⟩ := by unfold obK; rw [if_neg p34, if_neg p42, if_neg p51, if_pos (.inl p57)]
              have hL6 : obL.on w50 (And2 (Also (PlF F g2 g3) [g6]) (Sl v (((c.obs.take i).map obK).length * obL.n))) cs6.toList (obK o) := by rw [eK]; exact hL6
              refine ldcell_on (k := 4) (v := v) (y := .any) s50 rfl (by decide) rfl (fun ev w b off v h1 h2 => ld_57 ev w b off v h1 h2) (od rfl id) k3 rfl True.intro fun a51 s51 => ?_
              have z51 := z50
              show wpList _ _ _ (_ :: _) _ _
              refine ldrow_on (L := obL) s51 rfl rfl (by decide) rfl (od rfl id) k6 hL6 u_67 ur_67 sz_67 fun a52 s52 => ?_
              have z52 := z51
              have gr := gr.less (F1 := PlF F g2 g3) (fun _ h => .inl h)
              have s52 := s52.less (F' := And2 (PlF F g2 g3) (Sl v (((c.obs.take i).map obK).length * obL.n))) (fun k h => h.elim (fun h => .inl (.inl h)) .inr)
              refine chainK 1 (cc rfl (p_litL bs_57 g0 (od2 rfl id)) cn) (by kernel_rfl) s52 fun a53 w53 b53 s53 => ?_
              have z53 := z52.trans (b53.mono z52.size)
              have k2 := k2.below b53 k2.lt
              have k3 := k3.below b53 k3.lt
              have gr := gr.below b53
              show wpList _ _ _ (_ :: _) _ _
              obtain ⟨csr, hro, _⟩ := gr.row
              have hn3 := own_ne hro k3 (by decide)
              have hn2 := own_ne hro k2 (by decide)
              have hlen : ((c.obs.take i).map obK).length ≤ 3000 := by rw [List.length_map, List.length_take]; omega
              refine growL_step (B := w.heap.size) 71 73 s53 gr rfl rfl (by decide) rfl Try.underlying57 hi0 hz0 hz1 hz2 rfl (by decide) rfl rfl z53.size (by unfold maxLen; omega) (by omega) (fun _ y => by simp [Value.cells]) nuob fun v2 a54 w54 gr2 G54 eo54 s54 => ?_
              have k3 := k3.grown G54 hn3
              have k2 := k2.grown G54 hn2
              have z54 := z53.grown G54 z53.size (fun k e => (gr.lt e).1)
              refine chainK 1 (cc rfl (p_faV0 fa_59_4 g0 (od rfl id)) cn) (by kernel_rfl) s54 fun a55 w55 b55 s55 => ?_
              have z55 := z54.trans (b55.mono z54.size)
              have k2 := k2.below b55 k2.lt
              have k3 := k3.below b55 k3.lt
              have gr2 := gr2.below b55
              show wpList _ _ _ (_ :: _) _ _
              obtain ⟨csr2, hro2, _⟩ := gr2.row
              refine cell_W s55 rfl rfl rfl (od rfl id) (opd_mono (od rfl id) fun h => h.1) k3 (by simp) (slice_one hro2).2 (by kernel_rfl) (slice_one hro2).1 (fun _ => .inl (.inr (by simp))) (fun _ => by obtain ⟨A, m, cp, rfl⟩ := own_sl hro2; exact nou59p _ _ _ _ _ _ _ _ _) fun a56 w56 k3 G56 s56 => ?_
              have k3 : Blk w56 g3 59 #[.int .i64 c.co, .int .i64 c.fr, .int .i64 c.nm, .slice A3 n3 m3, v2] := k3
              have k2 := k2.grown G56 (by simp; omega)
              have gr2 := gr2.wrote G56 (fun _ => .inr (by simp))
              have z56 := z55.grown G56 z55.size (fun k e => by cases e; exact hg3W)
              refine wpList_done ?_
              refine flowT (s56.keep (sc 2 rfl (sc 3 rfl (sc 6 rfl (sc 16 rfl (sc 18 rfl (sc 19 rfl (sc 20 rfl (sc 70 rfl (sc 71 rfl (sc 72 rfl (sc 73 rfl (sc 74 rfl (sc 75 rfl sn)))))))))))))) (by kernel_rfl) (cc rfl (p_bin g0 (od rfl id) (oc _) (inc_3 (by omega)))
                  (cc rfl (p_move g0 (od rfl id)) cn)) fun a57 w57 b57 s57 => ?_
              have z57 := z56.trans (b57.mono z56.size)
              have k2 := k2.below b57 k2.lt
              have k3 := k3.below b57 k3.lt
              have gr2 := gr2.below b57
              exact ⟨hlt, v2, ⟨k2, k3, by rw [take_map_succ eo]; exact gr2, z57⟩, by rw [take_map_succ eo]; exact s57.to _ ⟨rfl, rfl, rfl, rfl, rfl, rfl, True.intro⟩⟩
          · -- false
            have p57 : ¬ o.k = 3 := by simpa using h57
            refine flowT (s46.keep (sc 2 rfl (sc 3 rfl (sc 5 rfl (sc 6 rfl (sc 16 rfl (sc 18 rfl (sc 19 rfl (sc 20 rfl (sc 21 rfl (sc 22 rfl (sc 23 rfl (sc 24 rfl (sc 25 rfl (sc 26 rfl (sc 27 rfl (sc 28 rfl (sc 29 rfl (sc 30 rfl (sc 31 rfl (sc 32 rfl (sc 33 rfl (sc 34 rfl (sc 35 rfl (sc 42 rfl (sc 43 rfl (sc 51 rfl (sc 52 rfl (sc 57 rfl (sc 58 rfl sn)))))))))))))))))))))))))))))) (by kernel_rfl) (cc rfl (p_bin g0 (od rfl id) (oc _) b_eql_3)
                (cc rfl (p_assign g0 (od rfl id)) cn)) fun a58 w58 b58 s58 => ?_
            have z58 := z46.trans (b58.mono z46.size)
            have k2 := k2.below b58 k2.lt
            have k3 := k3.below b58 k3.lt
            have k6 := k6.below b58 k6.lt
            have gr := gr.below b58
            have hL6 := (obL).mono hL6 (.of b58) fun _ _ h => h
            refine s58.cond 57 rfl (fun h59 => ?_) (fun h59 => ?_)
            · -- true
              have p59 : o.k = 5 := by simpa using h59
              refine flowM 11 g6 _ (fun fl => if fl 8 = true then (if fl 10 = true then { ob0 o with clr := o.clr, sp := o.sp } else { ob0 o with clr := o.clr }) else (if fl 10 = true then { ob0 o with sp := o.sp } else ob0 o)) (ob0 o) { ob0 o with clr := o.clr, sp := o.sp } mixed (s58.keep (sc 2 rfl (sc 3 rfl (sc 5 rfl (sc 6 rfl (sc 16 rfl (sc 18 rfl (sc 19 rfl (sc 20 rfl (sc 21 rfl (sc 22 rfl (sc 23 rfl (sc 24 rfl (sc 25 rfl (sc 26 rfl (sc 27 rfl (sc 28 rfl (sc 29 rfl (sc 30 rfl (sc 31 rfl (sc 32 rfl (sc 33 rfl (sc 34 rfl (sc 35 rfl (sc 42 rfl (sc 43 rfl (sc 51 rfl (sc 52 rfl (sc 57 rfl (sc 58 rfl (sc 59 rfl sn))))))))))))))))))))))))))))))) (fun _ => .inl (.inr (by simp))) k6 hL6 (by kernel_rfl) (by kernel_rfl) (cc rfl (p_fieldAddr pt120_3 fa_120_3 g0 (od rfl id))
                  (cc rfl (p_load Try.underlying36 rfl sz_36 g0 (od rfl id))
                  (cc rfl (p_call 36 g0 (ox (od rfl id) ox0) (fun _ _ => by kernel_rfl) f36)
                  (cc rfl (p_fieldAddr pt120_8 fa_120_8 g0 (od rfl id))
                  (cc rfl (p_loadI ld_3 g0 (od rfl id))
                  (cc rfl (p_fieldAddr pt120_9 fa_120_9 g0 (od rfl id))
                  (cc rfl (p_loadI ld_3 g0 (od rfl id))
                  (cc rfl (p_faV0 fa_67_3 g0 (od rfl id))
                  (cs rfl
                  (cc rfl (p_faV0 fa_67_8 g0 (od rfl id))
                  (cs rfl cn))))))))))) (am (fm (m := 8) (t := 67) (s := 62) (L' := (labL 12)) rfl rfl rfl rfl sz_39 pw67_3 sto_st) (am (fm (m := 10) (t := 68) (s := 64) (L' := (Lay.int .i64)) rfl rfl rfl rfl sz_3 pw67_8 sto_int) am0)) (fun fl h => ?h0_59) (fun fl h => ?h1_59) (fun fl => ?hX_59) (fun fl i h => ?hX2_59) rfl (fun u fl {_ _ _} h => nuob u h) (fun a59 w59 cs6 G59 k6 hL6 s59 => ?hQ_59)
              case h0_59 =>
                have e8 : fl 8 = false := h _ List.mem_cons_self
                have e10 : fl 10 = false := h _ (List.mem_cons_of_mem _ List.mem_cons_self)
                simp [e8, e10]
              case h1_59 =>
                have e8 : fl 8 = true := h _ List.mem_cons_self
                have e10 : fl 10 = true := h _ (List.mem_cons_of_mem _ List.mem_cons_self)
                simp [e8, e10]
              case hX_59 =>
                exact ⟨fun h => by have h : fl 8 = false := h; cases h10 : fl 10 <;> simp [h, h10], fun h => by have h : fl 10 = false := h; cases h8 : fl 8 <;> simp [h, h8], True.intro⟩
              case hX2_59 =>
                have e8 : 8 ≠ i := h _ List.mem_cons_self
                have e10 : 10 ≠ i := h _ (List.mem_cons_of_mem _ List.mem_cons_self)
                simp [e8, e10]
              case hQ_59 =>
                have gr := gr.wrote G59 (fun _ => .inr (by simp))
                have k2 := k2.grown G59 (by simp; omega)
                have k3 := k3.grown G59 (by simp; omega)
                have z59 := z58.grown G59 z58.size (fun k e => by cases e; exact hg6W)
                refine chainK 1 (cc rfl (p_faV0 fa_67_9 g0 (od rfl id)) cn) (by kernel_rfl) s59 fun a60 w60 b60 s60 => ?_
                have z60 := z59.trans (b60.mono z59.size)
                have k2 := k2.below b60 k2.lt
                have k3 := k3.below b60 k3.lt
                have k6 := k6.below b60 k6.lt
                have gr := gr.below b60
                have hL6 := (obL).mono hL6 (.of b60) fun _ _ h => h
                show wpList _ _ _ (_ :: _) _ _
                refine fld_step (L := obL) (L' := Lay.int .i64) s60 rfl rfl rfl (od rfl id) (od rfl id) sto_int k6 hL6 pw67_9 sz_3 (fun _ => .inl (.inr (by simp))) nuob fun cs6 a61 w61 k6 hL6 G61 s61 => ?_
                have gr := gr.wrote G61 (fun _ => .inr (by simp))
                have k2 := k2.grown G61 (by simp; omega)
                have k3 := k3.grown G61 (by simp; omega)
                have z61 := z60.grown G61 z60.size (fun k e => by cases e; exact hg6W)
                refine wpList_done ?_
                refine wp_region_lit ?_
                refine chainK 1 (cc rfl (p_faV0 fa_59_4 g0 (od rfl id)) cn) (by kernel_rfl) (s61.keep (sc 2 rfl (sc 3 rfl (sc 6 rfl (sc 16 rfl (sc 18 rfl (sc 19 rfl (sc 20 rfl sn)))))))) fun a62 w62 b62 s62 => ?_
                have z62 := z61.trans (b62.mono z61.size)
                have k2 := k2.below b62 k2.lt
                have k3 := k3.below b62 k3.lt
                have k6 := k6.below b62 k6.lt
                have gr := gr.below b62
                have hL6 := (obL).mono hL6 (.of b62) fun _ _ h => h
                show wpList _ _ _ (_ :: _) _ _
                have eK : obK o = ⟨o.k, o.par, o.lab, o.clr, 0, 0, [], [], o.sp, o.pc⟩ := by unfold obK; rw [if_neg p34, if_neg p42, if_neg p51, if_pos (.inr p59)]
                have hL6 : obL.on w62 (And2 (Also (PlF F g2 g3) [g6]) (Sl v (((c.obs.take i).map obK).length * obL.n))) cs6.toList (obK o) := by rw [eK]; exact hL6
                refine ldcell_on (k := 4) (v := v) (y := .any) s62 rfl (by decide) rfl (fun ev w b off v h1 h2 => ld_57 ev w b off v h1 h2) (od rfl id) k3 rfl True.intro fun a63 s63 => ?_
                have z63 := z62
                show wpList _ _ _ (_ :: _) _ _
                refine ldrow_on (L := obL) s63 rfl rfl (by decide) rfl (od rfl id) k6 hL6 u_67 ur_67 sz_67 fun a64 s64 => ?_
                have z64 := z63
                have gr := gr.less (F1 := PlF F g2 g3) (fun _ h => .inl h)
                have s64 := s64.less (F' := And2 (PlF F g2 g3) (Sl v (((c.obs.take i).map obK).length * obL.n))) (fun k h => h.elim (fun h => .inl (.inl h)) .inr)
                refine chainK 1 (cc rfl (p_litL bs_57 g0 (od2 rfl id)) cn) (by kernel_rfl) s64 fun a65 w65 b65 s65 => ?_
                have z65 := z64.trans (b65.mono z64.size)
                have k2 := k2.below b65 k2.lt
                have k3 := k3.below b65 k3.lt
                have gr := gr.below b65
                show wpList _ _ _ (_ :: _) _ _
                obtain ⟨csr, hro, _⟩ := gr.row
                have hn3 := own_ne hro k3 (by decide)
                have hn2 := own_ne hro k2 (by decide)
                have hlen : ((c.obs.take i).map obK).length ≤ 3000 := by rw [List.length_map, List.length_take]; omega
                refine growL_step (B := w.heap.size) 71 73 s65 gr rfl rfl (by decide) rfl Try.underlying57 hi0 hz0 hz1 hz2 rfl (by decide) rfl rfl z65.size (by unfold maxLen; omega) (by omega) (fun _ y => by simp [Value.cells]) nuob fun v2 a66 w66 gr2 G66 eo66 s66 => ?_
                have k3 := k3.grown G66 hn3
                have k2 := k2.grown G66 hn2
                have z66 := z65.grown G66 z65.size (fun k e => (gr.lt e).1)
                refine chainK 1 (cc rfl (p_faV0 fa_59_4 g0 (od rfl id)) cn) (by kernel_rfl) s66 fun a67 w67 b67 s67 => ?_
                have z67 := z66.trans (b67.mono z66.size)
                have k2 := k2.below b67 k2.lt
                have k3 := k3.below b67 k3.lt
                have gr2 := gr2.below b67
                show wpList _ _ _ (_ :: _) _ _
                obtain ⟨csr2, hro2, _⟩ := gr2.row
                refine cell_W s67 rfl rfl rfl (od rfl id) (opd_mono (od rfl id) fun h => h.1) k3 (by simp) (slice_one hro2).2 (by kernel_rfl) (slice_one hro2).1 (fun _ => .inl (.inr (by simp))) (fun _ => by obtain ⟨A, m, cp, rfl⟩ := own_sl hro2; exact nou59p _ _ _ _ _ _ _ _ _) fun a68 w68 k3 G68 s68 => ?_
                have k3 : Blk w68 g3 59 #[.int .i64 c.co, .int .i64 c.fr, .int .i64 c.nm, .slice A3 n3 m3, v2] := k3
                have k2 := k2.grown G68 (by simp; omega)
                have gr2 := gr2.wrote G68 (fun _ => .inr (by simp))
                have z68 := z67.grown G68 z67.size (fun k e => by cases e; exact hg3W)
                refine wpList_done ?_
                refine flowT (s68.keep (sc 2 rfl (sc 3 rfl (sc 6 rfl (sc 16 rfl (sc 18 rfl (sc 19 rfl (sc 20 rfl (sc 70 rfl (sc 71 rfl (sc 72 rfl (sc 73 rfl (sc 74 rfl (sc 75 rfl sn)))))))))))))) (by kernel_rfl) (cc rfl (p_bin g0 (od rfl id) (oc _) (inc_3 (by omega)))
                    (cc rfl (p_move g0 (od rfl id)) cn)) fun a69 w69 b69 s69 => ?_
                have z69 := z68.trans (b69.mono z68.size)
                have k2 := k2.below b69 k2.lt
                have k3 := k3.below b69 k3.lt
                have gr2 := gr2.below b69
                exact ⟨hlt, v2, ⟨k2, k3, by rw [take_map_succ eo]; exact gr2, z69⟩, by rw [take_map_succ eo]; exact s69.to _ ⟨rfl, rfl, rfl, rfl, rfl, rfl, True.intro⟩⟩
            · -- false
              have p59 : ¬ o.k = 5 := by simpa using h59
              refine wp_skip ?_
              refine wp_region_lit ?_
              refine chainK 1 (cc rfl (p_faV0 fa_59_4 g0 (od rfl id)) cn) (by kernel_rfl) (s58.keep (sc 2 rfl (sc 3 rfl (sc 6 rfl (sc 16 rfl (sc 18 rfl (sc 19 rfl (sc 20 rfl sn)))))))) fun a70 w70 b70 s70 => ?_
              have z70 := z58.trans (b70.mono z58.size)
              have k2 := k2.below b70 k2.lt
              have k3 := k3.below b70 k3.lt
              have k6 := k6.below b70 k6.lt
              have gr := gr.below b70
              have hL6 := (obL).mono hL6 (.of b70) fun _ _ h => h
              show wpList _ _ _ (_ :: _) _ _
              have eK : obK o = ob0 o := by unfold obK; rw [if_neg p34, if_neg p42, if_neg p51, if_neg (fun h => h.elim p57 p59)]
              have hL6 : obL.on w70 (And2 (Also (PlF F g2 g3) [g6]) (Sl v (((c.obs.take i).map obK).length * obL.n))) cs6.toList (obK o) := by rw [eK]; exact hL6
              refine ldcell_on (k := 4) (v := v) (y := .any) s70 rfl (by decide) rfl (fun ev w b off v h1 h2 => ld_57 ev w b off v h1 h2) (od rfl id) k3 rfl True.intro fun a71 s71 => ?_
              have z71 := z70
              show wpList _ _ _ (_ :: _) _ _
              refine ldrow_on (L := obL) s71 rfl rfl (by decide) rfl (od rfl id) k6 hL6 u_67 ur_67 sz_67 fun a72 s72 => ?_
              have z72 := z71
              have gr := gr.less (F1 := PlF F g2 g3) (fun _ h => .inl h)
              have s72 := s72.less (F' := And2 (PlF F g2 g3) (Sl v (((c.obs.take i).map obK).length * obL.n))) (fun k h => h.elim (fun h => .inl (.inl h)) .inr)
              refine chainK 1 (cc rfl (p_litL bs_57 g0 (od2 rfl id)) cn) (by kernel_rfl) s72 fun a73 w73 b73 s73 => ?_
              have z73 := z72.trans (b73.mono z72.size)
              have k2 := k2.below b73 k2.lt
              have k3 := k3.below b73 k3.lt
              have gr := gr.below b73
              show wpList _ _ _ (_ :: _) _ _
              obtain ⟨csr, hro, _⟩ := gr.row
              have hn3 := own_ne hro k3 (by decide)
              have hn2 := own_ne hro k2 (by decide)
              have hlen : ((c.obs.take i).map obK).length ≤ 3000 := by rw [List.length_map, List.length_take]; omega
              refine growL_step (B := w.heap.size) 71 73 s73 gr rfl rfl (by decide) rfl Try.underlying57 hi0 hz0 hz1 hz2 rfl (by decide) rfl rfl z73.size (by unfold maxLen; omega) (by omega) (fun _ y => by simp [Value.cells]) nuob fun v2 a74 w74 gr2 G74 eo74 s74 => ?_
              have k3 := k3.grown G74 hn3
              have k2 := k2.grown G74 hn2
              have z74 := z73.grown G74 z73.size (fun k e => (gr.lt e).1)
              refine chainK 1 (cc rfl (p_faV0 fa_59_4 g0 (od rfl id)) cn) (by kernel_rfl) s74 fun a75 w75 b75 s75 => ?_
              have z75 := z74.trans (b75.mono z74.size)
              have k2 := k2.below b75 k2.lt
              have k3 := k3.below b75 k3.lt
              have gr2 := gr2.below b75
              show wpList _ _ _ (_ :: _) _ _
              obtain ⟨csr2, hro2, _⟩ := gr2.row
              refine cell_W s75 rfl rfl rfl (od rfl id) (opd_mono (od rfl id) fun h => h.1) k3 (by simp) (slice_one hro2).2 (by kernel_rfl) (slice_one hro2).1 (fun _ => .inl (.inr (by simp))) (fun _ => by obtain ⟨A, m, cp, rfl⟩ := own_sl hro2; exact nou59p _ _ _ _ _ _ _ _ _) fun a76 w76 k3 G76 s76 => ?_
              have k3 : Blk w76 g3 59 #[.int .i64 c.co, .int .i64 c.fr, .int .i64 c.nm, .slice A3 n3 m3, v2] := k3
              have k2 := k2.grown G76 (by simp; omega)
              have gr2 := gr2.wrote G76 (fun _ => .inr (by simp))
              have z76 := z75.grown G76 z75.size (fun k e => by cases e; exact hg3W)
              refine wpList_done ?_
              refine flowT (s76.keep (sc 2 rfl (sc 3 rfl (sc 6 rfl (sc 16 rfl (sc 18 rfl (sc 19 rfl (sc 20 rfl (sc 70 rfl (sc 71 rfl (sc 72 rfl (sc 73 rfl (sc 74 rfl (sc 75 rfl sn)))))))))))))) (by kernel_rfl) (cc rfl (p_bin g0 (od rfl id) (oc _) (inc_3 (by omega)))
                  (cc rfl (p_move g0 (od rfl id)) cn)) fun a77 w77 b77 s77 => ?_
              have z77 := z76.trans (b77.mono z76.size)
              have k2 := k2.below b77 k2.lt
              have k3 := k3.below b77 k3.lt
              have gr2 := gr2.below b77
              exact ⟨hlt, v2, ⟨k2, k3, by rw [take_map_succ eo]; exact gr2, z77⟩, by rw [take_map_succ eo]; exact s77.to _ ⟨rfl, rfl, rfl, rfl, rfl, rfl, True.intro⟩⟩
  · -- false
    obtain rfl : i = c.obs.length := by have := of_decide_eq_false h21; (try dsimp only at this); omega
    refine wp_exit ?_
    refine wp_seq ?_
    refine wp_region_lit ?_
    show wpList _ _ _ (_ :: _) _ _
    have s6 := (s6.keep (sc 2 rfl (sc 3 rfl (sc 16 rfl sn))))
    rw [List.take_length] at gr
    rw [List.take_length] at s6
    have hsl := s6.get 16 rfl
    have hC : cfL.on w6 _ _ (planC c) := cf_of (a := c.co) (b := c.fr) (c := c.nm) hsl gr.sl
    refine ldrow_on (L := cfL) s6 rfl rfl (by decide) rfl (od rfl id) k3 hC u_59 ur_59 sz_59 fun a78 s78 => ?_
    have z78 := z6
    have s78 := s78.more 77 (y := .st cfL (planC c)) (s78.get 77 rfl).2
    show wpList _ _ _ (_ :: _) _ _
    refine store_U (L := cfL) 2 77 s78 rfl rfl rfl rfl rfl k2 rfl sz_59 (fun _ => .inl (.inl (.inr (by simp)))) nucf fun cs2 a79 w79 k2 _ hL2 G79 s79 => ?_
    have z79 := z78.grown G79 z78.size (fun k e => by cases e; exact hg2)
    refine wpList_done ?_
    exact wp_ret (ret_cell (fn := Try.f45) s79 2 rfl rfl u_59 ur_59 sz_59 k2 hL2 (fun _ h => .inl (.inl (.inl h))) z79)
end Go.Proofs.Ytihddficgpjgpaa.Y
