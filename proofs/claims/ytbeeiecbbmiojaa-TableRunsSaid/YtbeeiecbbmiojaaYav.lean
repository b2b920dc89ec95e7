/- Yav: what the law on going over a table needs -/
import Derived.Test.YtbeeiecbbmiojaaYun
import Derived.Test.YtbeeiecbbmiojaaMRa
namespace Go.Proofs.Ytbeeiecbbmiojaa.Y
open Go.RowKit Go.ChangeShapes Go.WideShapes Go.ChangeAt Go.ChangeMaps Go.MapKept

/-- A root, and segments in it. -/
structure AInv (t : Tab) (g1 : Nat) (L : List Int) : Prop where
  root : t.tm.lookup 1 = some g1
  ro : t.ob g1 = some ⟨1, 1, 0, L, none⟩
  kid : ∀ n ∈ L, n ≠ 1 ∧ 0 < n ∧ n < 65536 ∧ ∃ g, t.tm.lookup n = some g ∧ g ≠ g1 ∧ t.ob g = some ⟨n, 2, 1, [], none⟩
  keys : (t.tm.map (·.1)).Perm (1 :: L)
  nd : (1 :: L).Nodup
theorem AInv.len {t : Tab} {g1 : Nat} {L : List Int} (h : AInv t g1 L) : t.tm.length = L.length + 1 := by
  have := h.keys.length_eq
  simpa using this
theorem AInv.none {t : Tab} {g1 : Nat} {L : List Int} (h : AInv t g1 L) {n : Int} (h1 : n ≠ 1) (hn : n ∉ L) : t.tm.lookup n = none := keys_none fun hm => by
  rcases List.mem_cons.1 (h.keys.mem_iff.1 hm) with e | e
  · exact h1 e
  · exact hn e
theorem AInv.ok {t : Tab} {g1 : Nat} {L : List Int} (h : AInv t g1 L) : t.Ok := fun n g hn => by
  rcases List.mem_cons.1 (h.keys.mem_iff.1 (keys_mem hn)) with e | e
  · subst e
    rw [h.root] at hn
    injection hn with hn
    subst hn
    exact ⟨_, h.ro, rfl⟩
  · obtain ⟨_, _, _, g2, a3, _, a5⟩ := h.kid n e
    rw [a3] at hn
    injection hn with hn
    subst hn
    exact ⟨_, a5, rfl⟩
theorem ainv_T1 (g1 : Nat) : AInv (T1 g1) g1 [] := ⟨by simp [List.lookup], upd_self (f := fun _ => none), (fun _ h => by cases h), by simp, by simp⟩
theorem AInv.home {t : Tab} {g1 : Nat} {L : List Int} (h : AInv t g1 L) {o : TO} (ho : o.home = 1) : homeOf t o = some (g1, ⟨1, 1, 0, L, .none⟩) := by
  unfold homeOf
  rw [ho, h.root]
  simp [h.ro]
/-- What is not there comes in; what is there does not. -/
theorem AInv.add {t : Tab} {g1 : Nat} {L : List Int} (h : AInv t g1 L) {n : Int} (h0 : 0 ≤ n) (h6 : n < 65536) {g : Nat} (hg : t.ob g = .none) (hA : addB t ⟨n, 2, 1, [], .none⟩ = true) : AInv (addT t g ⟨n, 2, 1, [], .none⟩) g1 (L ++ [n]) := by
  have hh := h.home (o := ⟨n, 2, 1, [], .none⟩) rfl
  have hl : t.tm.lookup n = .none ∧ n ≠ 0 := by
    unfold addB at hA
    simp only [Bool.and_eq_true, bne_iff_ne] at hA
    refine ⟨?_, hA.1.1⟩
    cases hq : t.tm.lookup n with
    | none => rfl
    | some _ => have := hA.1.2; simp [hq] at this
  have hk : n ∉ t.tm.map (·.1) := fun hm => by
    have : ∀ l : List (Int × Nat), n ∈ l.map (·.1) → l.lookup n ≠ .none := by
      intro l
      induction l with
      | nil => intro h; simp at h
      | cons p t ih =>
        intro h
        rw [show p = (p.1, p.2) from rfl, List.lookup_cons]
        cases hb : n == p.1 with
        | true => simp
        | false =>
          rcases List.mem_cons.1 h with e | e
          · subst e; simp at hb
          · exact ih e
    exact this _ hm hl.1
  have h1 : n ≠ 1 := fun e => hk (h.keys.mem_iff.2 (e ▸ List.mem_cons_self))
  have hn : n ∉ L := fun e => hk (h.keys.mem_iff.2 (List.mem_cons_of_mem _ e))
  have hgg : g ≠ g1 := fun e => by rw [e, h.ro] at hg; cases hg
  have eo : addO t ⟨n, 2, 1, [], .none⟩ = upd t.ob g1 (some ⟨1, 1, 0, L ++ [n], .none⟩) := by unfold addO; rw [hh]
  refine ⟨?_, ?_, fun m hm => ?_, ?_, ?_⟩
  · show (t.tm ++ [(n, g)]).lookup 1 = _
    rw [look_app hk, if_neg (fun e => h1 e.symm)]
    exact h.root
  · show upd (addO t _) g _ g1 = _
    rw [upd_ne (fun e => hgg e.symm), eo, upd_self]
  · rcases List.mem_append.1 hm with hm | hm
    · obtain ⟨a1, a2, a2', q, a3, a4, a5⟩ := h.kid m hm
      refine ⟨a1, a2, a2', q, ?_, a4, ?_⟩
      · show (t.tm ++ [(n, g)]).lookup m = _
        rw [look_app hk, if_neg (fun e : m = n => hn (e ▸ hm))]
        exact a3
      · show upd (addO t _) g _ q = _
        rw [upd_ne (fun e => by rw [e, hg] at a5; cases a5), eo, upd_ne a4]
        exact a5
    · rw [List.mem_singleton.1 hm]
      refine ⟨h1, by have := hl.2; omega, h6, g, ?_, hgg, ?_⟩
      · show (t.tm ++ [(n, g)]).lookup n = _
        rw [look_app hk, if_pos rfl]
      · show upd (addO t _) g _ g = _
        rw [upd_self]
  · show ((t.tm ++ [(n, g)]).map (·.1)).Perm (1 :: (L ++ [n]))
    rw [List.map_append]
    exact h.keys.append_right [n]
  · show (([1] ++ L) ++ [n]).Nodup
    rw [List.nodup_append]
    refine ⟨h.nd, by simp, fun a ha b hb e => ?_⟩
    rw [List.mem_singleton.1 hb] at e
    subst e
    rcases List.mem_cons.1 ha with e | e
    · exact h1 e
    · exact hn e
/-- Unlike numbers can be put in order. -/
theorem rise_ex (l : List Int) (h : l.Nodup) : ∃ ns : List Int, ns.Perm l ∧ ns.Pairwise (· < ·) := by
  refine ⟨l.mergeSort (fun a b => decide (a ≤ b)), List.mergeSort_perm _ _, ?_⟩
  have hp : (l.mergeSort (fun a b => decide (a ≤ b))).Pairwise (fun a b => decide (a ≤ b) = true) := List.pairwise_mergeSort (fun a b c h1 h2 => by simp at h1 h2 ⊢; omega) (fun a b => by simp; omega) l
  have hn : (l.mergeSort (fun a b => decide (a ≤ b))).Nodup := ((List.mergeSort_perm l _).nodup_iff).2 h
  have := hp.and hn
  refine this.imp fun {a b} ⟨h1, h2⟩ => ?_
  have h1 : a ≤ b := by simpa using h1
  have h2 : a ≠ b := h2
  omega
theorem AInv.names {t : Tab} {g1 : Nat} {L : List Int} (h : AInv t g1 L) : ∃ ns : List Int, ns.Perm (t.tm.map (·.1)) ∧ ns.Pairwise (· < ·) ∧ ∀ x ∈ ns, 0 < x := by
  obtain ⟨ns, h1, h2⟩ := rise_ex (t.tm.map (·.1)) ((h.keys.nodup_iff).2 h.nd)
  refine ⟨ns, h1, h2, fun x hx => ?_⟩
  rcases List.mem_cons.1 (h.keys.mem_iff.1 (h1.mem_iff.1 hx)) with e | e
  · omega
  · exact (h.kid x e).2.1
theorem AInv.ne {t : Tab} {g1 : Nat} {L : List Int} (h : AInv t g1 L) : t.tm ≠ [] := fun e => by
  have := h.len
  rw [e] at this
  simp at this
theorem AInv.far {t : Tab} {g1 : Nat} {L : List Int} (h : AInv t g1 L) {n : Int} (hn : 65536 ≤ n) : t.tm.lookup n = .none := h.none (by omega) fun hm => by have := (h.kid n hm).2.2.1; omega
theorem lenB_lt {t : Tab} {k : Nat} (h : LenB t k) (hk : k ≤ 100000) : ∀ x q, t.ob x = some q → q.kids.length ≤ 100000 := fun x q hq => Nat.le_trans (h x q hq) hk
/-- The next of a prefix. -/
theorem pre_next {α : Type} {xs pre : List α} {x : α} {k : Nat} (h1 : pre = xs.take k) (hk : k ≤ xs.length) (h : (pre ++ [x]) <+: xs) : k < xs.length ∧ xs[k]? = some x ∧ pre ++ [x] = xs.take (k + 1) := by
  subst h1
  have hl : (xs.take k).length = k := by rw [List.length_take]; omega
  have h3 := List.prefix_iff_eq_take.1 h
  rw [List.length_append, hl, List.length_singleton] at h3
  have h4 := h.length_le
  rw [List.length_append, hl, List.length_singleton] at h4
  refine ⟨by omega, ?_, h3⟩
  have : (xs.take (k + 1))[k]? = some x := by rw [← h3, List.getElem?_append_right (by omega)]; simp [hl]
  rwa [List.getElem?_take, if_pos (by omega)] at this
theorem tab_ty {w : World} {B gT gM gA : Nat} {t : Tab} {kv : Nat → Value} {T : TypeId} {cs : Array Value} (h : TabAt w B gT gM t kv) (hA : Blk w gA T cs) (h1 : T ≠ 104) (h2 : T ≠ 48) (h3 : T ≠ 28) (h4 : T ≠ 66) : ¬ TabB gT gM t kv gA := fun hi => by
  rcases hi with rfl | rfl | ⟨g, o, hg, rfl | h5 | ⟨on, h5⟩⟩
  · exact blk_ne h.tb hA (Ne.symm h1) rfl
  · exact map_ne hA h.mp rfl
  · exact blk_ne (h.ob _ _ hg).blk hA (Ne.symm h2) rfl
  · exact row_ne hA (h.ob _ _ hg).row h3 h5
  · exact blk_ne ((h.ob _ _ hg).th _ _ h5).1 hA (Ne.symm h4) rfl
theorem tab_fr {w : World} {B gT gM g : Nat} {t : Tab} {kv : Nat → Value} (h : TabAt w B gT gM t kv) (hg : w.heap.size ≤ g) : ¬ TabB gT gM t kv g := fun hi => absurd (h.lt hi).2 (Nat.not_lt.2 hg)
/-- What stands while a table is gone over. -/
def AllI (w : World) (B gT gM g3 g4 gl gi : Nat) (t : Tab) (kv : Nat → Value) (ns : List Int) (stop : Int) (pre : List Nat) (W : World) : Prop :=
  ∃ (k : Nat) (last : Int), pre = (ns.map (lookG t)).take k ∧ k ≤ ns.length ∧ (∀ x ∈ ns.drop k, last < x) ∧ Blk W gl 28 #[.int .u64 last] ∧ Blk W gi 3 #[.int .i64 (k : Int)] ∧ TabAt W B gT gM t kv ∧ Blk W g3 3 #[.int .i64 stop] ∧ Blk W g4 4 #[.bool false] ∧ OnlyB (fun _ => False) w W
/-- What stands when it was enough. -/
def AllX (w : World) (B gT gM g3 g4 gi : Nat) (t : Tab) (kv : Nat → Value) (n : Nat) (stop : Int) (W : World) : Prop :=
  ∃ (k : Nat), (k = n ∨ (k : Int) = stop) ∧ Blk W gi 3 #[.int .i64 (k : Int)] ∧ TabAt W B gT gM t kv ∧ Blk W g3 3 #[.int .i64 stop] ∧ Blk W g4 4 #[.bool false] ∧ OnlyB (fun _ => False) w W
section
variable {w : World} {B gT gM g3 g4 gl gi : Nat} {t : Tab} {kv : Nat → Value} {ns : List Int} {stop : Int}
theorem AllI.below {pre : List Nat} {n0 : Nat} {A C : World} (h : AllI w B gT gM g3 g4 gl gi t kv ns stop pre A) (hb : Below n0 A C) (h1 : gl < n0) (h2 : gi < n0) (h3 : ∀ i, TabB gT gM t kv i → i < n0) (h5 : g3 < n0) (h6 : g4 < n0) (h7 : w.heap.size ≤ n0) : AllI w B gT gM g3 g4 gl gi t kv ns stop pre C := by
  obtain ⟨k, last, a1, a2, a3, a4, a5, a6, a7, a8, a9⟩ := h
  exact ⟨k, last, a1, a2, a3, (hb.block _ h1).trans a4, (hb.block _ h2).trans a5, a6.only (S := fun i => n0 ≤ i) ⟨hb.os, hb.tape, hb.output, hb.size, fun i _ hn => hb.block i (by omega)⟩ (fun i hi hn => by have := h3 i hi; omega), (hb.block _ h5).trans a7, (hb.block _ h6).trans a8, ⟨hb.os.trans a9.os, hb.tape.trans a9.tape, hb.output.trans a9.output, Nat.le_trans a9.size hb.size, fun i hi hn => (hb.block i (by omega)).trans (a9.block i hi hn)⟩⟩
theorem AllX.below {n n0 : Nat} {A C : World} (h : AllX w B gT gM g3 g4 gi t kv n stop A) (hb : Below n0 A C) (h2 : gi < n0) (h3 : ∀ i, TabB gT gM t kv i → i < n0) (h5 : g3 < n0) (h6 : g4 < n0) (h7 : w.heap.size ≤ n0) : AllX w B gT gM g3 g4 gi t kv n stop C := by
  obtain ⟨k, a1, a5, a6, a7, a8, a9⟩ := h
  exact ⟨k, a1, (hb.block _ h2).trans a5, a6.only (S := fun i => n0 ≤ i) ⟨hb.os, hb.tape, hb.output, hb.size, fun i _ hn => hb.block i (by omega)⟩ (fun i hi hn => by have := h3 i hi; omega), (hb.block _ h5).trans a7, (hb.block _ h6).trans a8, ⟨hb.os.trans a9.os, hb.tape.trans a9.tape, hb.output.trans a9.output, Nat.le_trans a9.size hb.size, fun i hi hn => (hb.block i (by omega)).trans (a9.block i hi hn)⟩⟩
end
theorem ste_zero {U : Prop} {N : Nat} {e : Env} {F : Cell → Prop} {a : Act} {w : World} (h : StE U N e F a w) : a.defers = [] := h.defers
section
variable {d : Nat} {t : TypeId} {p : String} {af : Array Edge} {g : Option (Nat × Bool)} {x x2 : Operand}
theorem bi_3 {z : Int} : ∀ (ev : Operand → Value) (w : World), ev x = .int .i64 z → (execOp ev ⟨some d, .box 3 x, t, p, af, g⟩).run Try.prog w = .ok (.value (.pointer (some ⟨w.heap.size, 0, none⟩))) (w.alloc (.cells #[.int .i64 z] 3)) := fun ev w h1 => by go_simp
theorem al_4 : ∀ (ev : Operand → Value) (w : World), (execOp ev ⟨some d, .alloc 4, t, p, af, g⟩).run Try.prog w = .ok (.value (.pointer (some ⟨w.heap.size, 0, none⟩))) (w.alloc (.cells #[.bool false] 4)) := fun ev w => by go_simp
theorem al_28 : ∀ (ev : Operand → Value) (w : World), (execOp ev ⟨some d, .alloc 28, t, p, af, g⟩).run Try.prog w = .ok (.value (.pointer (some ⟨w.heap.size, 0, none⟩))) (w.alloc (.cells #[.int .u64 0] 28)) := fun ev w => by go_simp
theorem al_3v : ∀ (ev : Operand → Value) (w : World), (execOp ev ⟨some d, .alloc 3, t, p, af, g⟩).run Try.prog w = .ok (.value (.pointer (some ⟨w.heap.size, 0, none⟩))) (w.alloc (.cells #[.int .i64 0] 3)) := fun ev w => by go_simp
theorem mk_37 : ∀ (ev : Operand → Value) (w : World) (u : Value), ev x = u → (execOp ev ⟨some d, .makeFunc (.func 37) #[x] #[], t, p, af, g⟩).run Try.prog w = .ok (.value (.func (.func 37) #[u] #[])) w := fun ev w u h1 => by go_simp
theorem b_leq_28 {a b : Int} : Run2 Try.prog ⟨some d, .binOp .leq 28 x x2 28, t, p, af, g⟩ x x2 (.int .u64 a) (.int .u64 b) (.bool (decide (a ≤ b))) := fun ev w h1 h2 => by go_simp
theorem b_and_28 {a b : Int} : Run2 Try.prog ⟨some d, .binOp .and 28 x x2 28, t, p, af, g⟩ x x2 (.int .u64 a) (.int .u64 b) (.int .u64 (bits .and .u64 a b)) := fun ev w h1 h2 => by go_simp
theorem bd_48z : DoneRun Try.prog ⟨some d, .build 48 #[], t, p, af, g⟩ (.agg (toC ⟨0, 0, 0, [], none⟩ (.slice none 0 0))) := fun ev w hc => by go_simp; rfl
theorem b_eqN : Run2 Try.prog ⟨some d, .binOp .eql 27 x x2 27, t, p, af, g⟩ x x2 (.pointer none) (.pointer none) (.bool true) := fun ev w h1 h2 => by go_simp
end
theorem lv_4 : LvRun Try.prog 4 := fun w g v h => by go_simp
theorem p_mk37 {U : Prop} {ops : Array Oper} {Q : Exit → Act → World → Prop} {N d : Nat} {e : Env} {t : TypeId} {p : String} {af : Array Edge} {gd : Option (Nat × Bool)} {c : Bool} {x : Operand} {u : Value} (hg : GdE ops e gd c) (hx : OpdE e c x (.val u)) : Pays U Try.prog ops Q N e ⟨some d, .makeFunc (.func 37) #[x] #[], t, p, af, gd⟩ (c, .val (.func (.func 37) #[u] #[])) :=
  pVal hg fun e a w F hk => ⟨_, mk_37 _ w u (hx a w F (fun s hs => hk s (by simp [Op.operands, hs])) e), rfl⟩
theorem enters37 : ∀ (args : Array Value) (w : World), (callFunc 37 args).run Try.prog w = .ok (.enter 37 args) w := fun args w => by go_simp
theorem opens_u28 : Opens Try.prog 28 (Lay.int .u64) (fun _ => True) := opens_mono (fun _ _ => True.intro) (opens_int Try.underlying28)
theorem opens_u29 : Opens Try.prog 29 (Lay.sl (Lay.int .u64)) (fun l => l.length ≤ maxLen) := opens_mono (fun _ h => h.1) (opens_slice ⟨0⟩ Try.underlying29 (by kernel_rfl) (by decide) opens_u28)
set_option maxRecDepth 100000 in
/-- Nothing is added. -/
theorem cAddN {w : World} {v0 : Value} : Calls Try.prog 15 #[v0, .pointer none] w fun e w' => ∃ v, e = .returned v ∧ v = .bool false ∧ Below w.heap.size w w' := by
  have z0 : OnlyB (fun _ => False) w w := OnlyB.refl _ _
  go_enter Try.func15, Try.ntmps15
  refine wp_seq ?_
  refine flowC mixed (st0 (U := False) (N := 83) (e := [(0, true, .val (v0)), (1, true, .val (.pointer none))]) (F := noF) rfl rfl (fok_no _ _) ⟨⟨rfl, rfl⟩, ⟨⟨rfl, rfl⟩, True.intro⟩⟩) (by kernel_rfl) (by kernel_rfl) (cc rfl (p_assign g0 (oc _)) cn) fun a1 w1 b1 s1 => ?_
  have z1 := z0.below b1
  refine wp_seq ?_
  refine wp_seq ?_
  refine flowC mixed (s1.keep (sc 0 rfl (sc 1 rfl (sc 4 rfl sn)))) (by kernel_rfl) (by kernel_rfl) (cc rfl (p_move g0 (od rfl id))
      (cc rfl (p_bin g0 (od rfl id) (oc _) b_eqN)
      (cc rfl (p_move g0 (od rfl id))
      (cc rfl (p_move (g1 rfl rfl) (od rfl (fun _ => rfl)))
      (cc rfl (p_dead (g1 rfl rfl) (y := .any) rfl)
      (cc rfl (p_dead (g1 rfl rfl) (y := .any) rfl)
      (cc rfl (p_dead (g1 rfl rfl) (y := .any) rfl)
      (cc rfl (p_dead (g1 rfl rfl) (y := .bool false) rfl)
      (cc rfl (p_or g0 (od rfl id) (od rfl id))
      (cc rfl (p_move g0 (od rfl id))
      (cc rfl (p_move (g1 rfl rfl) (od rfl (fun _ => rfl)))
      (cc rfl (p_dead (g1 rfl rfl) (y := .any) rfl)
      (cc rfl (p_dead (g1 rfl rfl) (y := .any) rfl)
      (cc rfl (p_dead (g1 rfl rfl) (y := .any) rfl)
      (cc rfl (p_move (g1 rfl rfl) (od rfl (fun _ => rfl)))
      (cc rfl (p_dead (g1 rfl rfl) (y := .any) rfl)
      (cc rfl (p_dead (g1 rfl rfl) (y := .any) rfl)
      (cc rfl (p_dead (g1 rfl rfl) (y := .any) rfl)
      (cc rfl (p_dead (g1 rfl rfl) (y := .any) rfl)
      (cc rfl (p_dead (g1 rfl rfl) (y := .bool false) rfl)
      (cc rfl (p_or g0 (od rfl id) (od rfl id)) cn))))))))))))))))))))) fun a2 w2 b2 s2 => ?_
  have z2 := z1.below b2
  refine s2.cond 26 rfl (fun _ => ?_) (fun h => absurd h (by simp))
  refine wp_seq ?_
  refine flowT (s2.keep (sc 0 rfl (sc 1 rfl (sc 4 rfl sn)))) (by kernel_rfl) (cc rfl (p_assign g0 (oc _)) cn) fun a3 w3 b3 s3 => ?_
  have z3 := z2.below b3
  exact wp_ret (ret_o (fn := Try.f15) (R := fun v w' => v = .bool false ∧ Below w.heap.size w w') (v := .bool false) s3 4 rfl rfl ⟨rfl, z3.to_below (fun _ _ h => h) (Nat.le_refl _)⟩)

end Go.Proofs.Ytbeeiecbbmiojaa.Y
