/- ConfigLimits: each number of a configuration may be at its bounds, and not beyond -/
import Derived.Test.YtihddficgpjgpaaYlim
import Derived.Test.YtihddficgpjgpaaHead
namespace Go.Proofs.Ytihddficgpjgpaa.Y
open Go.RowKit Go.ChangeShapes Go.WideShapes Go.ChangeAt

theorem seven_is (x : Int) : ∃ q : Nat, q ≤ 6 ∧ (IntKind.i64.wrap (x.tmod 7 + 7)).tmod 7 = (q : Int) := by
  have h3 : (0 : Int) < 7 := by omega
  have h4 := Int.tmod_lt_of_pos x h3
  have h5 : -7 < x.tmod 7 := Int.lt_tmod_of_pos x h3
  have e : IntKind.i64.wrap (x.tmod 7 + 7) = x.tmod 7 + 7 := by rw [IntKind.wrap_i64]; omega
  rw [e]
  have h6 : 0 ≤ (x.tmod 7 + 7).tmod 7 := Int.tmod_nonneg _ (by omega)
  have h7 := Int.tmod_lt_of_pos (x.tmod 7 + 7) h3
  exact ⟨((x.tmod 7 + 7).tmod 7).toNat, by omega, by omega⟩
section
variable {U : Prop} {ops : Array Oper} {Q : Exit → Act → World → Prop} {N : Nat} {e : Env} {d : Nat} {t : TypeId} {p : String} {af : Array Edge} {g : Option (Nat × Bool)} {c : Bool} {x x2 : Operand}
theorem p_bd64v {n : Int} (hg : GdE ops e g c) (hx : OpdE e c x (.int .i64 n)) : Pays U Try.prog ops Q N e ⟨some d, .build 64 #[(1, x)], t, p, af, g⟩ (c, .val (.agg #[.int .u64 0, .int .i64 n])) :=
  pVal hg fun e a w F hk => ⟨_, bd64 _ w (hx a w F (fun s hs => hk s (by simp [Op.operands, hs])) e), rfl⟩
theorem p_idxV {P : Program} {b off len cap i n : Nat} {T : TypeId} {y : Sym} (hr : IndexRun P ⟨some d, .indexAddr T x x2, t, p, af, g⟩ x x2 n) (hi : i < len) (hg : GdE ops e g c) (hx : OpdE e c x (.both (.val (.slice (some ⟨b, off, none⟩) len cap)) y)) (hx2 : OpdE e c x2 (.int .i64 i)) : Pays U P ops Q N e ⟨some d, .indexAddr T x x2, t, p, af, g⟩ (c, .val (.pointer (some ⟨b, off + i * n, none⟩))) :=
  pVal hg fun e a w F hk => ⟨_, hr _ w b off len cap i (hx a w F (fun s hs => hk s (by simp [Op.operands, hs])) e).1 (hx2 a w F (fun s hs => hk s (by simp [Op.operands, hs])) e) hi, rfl⟩
theorem p_lenV {P : Program} {A : Option Addr} {len cap : Nat} {T : TypeId} {y : Sym} (hr : LenRun P ⟨some d, .call { callee := .builtin .len, args := #[x], argTypes := #[T] }, t, p, af, g⟩ x) (hg : GdE ops e g c) (hx : OpdE e c x (.both (.val (.slice A len cap)) y)) : Pays U P ops Q N e ⟨some d, .call { callee := .builtin .len, args := #[x], argTypes := #[T] }, t, p, af, g⟩ (c, .int .i64 len) :=
  pVal hg fun e a w F hk => ⟨_, hr _ w A _ _ (hx a w F (fun s hs => hk s (by simp [Op.operands, Call.operands, hs])) e).1, rfl⟩
end
abbrev dev0 : Ob := ⟨6, 0, ⟨2, []⟩, ⟨0, []⟩, 0, 0, [], [], 0, 0⟩
structure LimK (w : World) (g5 gs i : Nat) (v : Value) (wr : World) : Prop where
  k5 : Blk wr g5 59 #[.int .i64 1, .int .i64 100, .int .i64 9, .slice (some ⟨gs, 0, none⟩) 1 1, v]
  ks : Blk wr gs 64 #[.int .u64 0, .int .i64 1]
  gr : GrowsL True obL w.heap.size 67 (AtB g5) wr v (List.replicate i dev0)
  z : Below w.heap.size w wr
def LimI (w : World) (g5 gs n : Nat) (m : Int) (i : Nat) (a : Act) (wr : World) : Prop := ∃ v, LimK w g5 gs i v wr ∧ StE True 84 [(69, true, .int .i64 (i : Int)), (68, true, .int .i64 (n : Int)), (1, true, .int .i64 m), (5, true, .val (.pointer (some ⟨g5, 0, none⟩)))] (AtB g5) a wr
structure TkK (w : World) (g5 gm n i : Nat) (wr : World) : Prop where
  k5 : Blk wr g5 59 #[.int .i64 1, .int .i64 100, .int .i64 9, .slice (some ⟨gm, 0, none⟩) n n, .slice none 0 0]
  km : Blk wr gm 64 ((rowsAt n i).flatMap slE).toArray
  z : Below w.heap.size w wr
def TkI (w : World) (g5 gm n : Nat) (m : Int) (i : Nat) (a : Act) (wr : World) : Prop := TkK w g5 gm n i wr ∧ StE True 84 [(48, true, .int .i64 (i : Int)), (47, true, .int .i64 (n : Int)), (1, true, .int .i64 m), (5, true, .val (.pointer (some ⟨g5, 0, none⟩)))] (AtB g5) a wr
theorem nou59 (a b c : Int) (A A' : Option Addr) (n m n' m' : Nat) (x : Int) : Value.int .u32 x ∉ (#[.int .i64 a, .int .i64 b, .int .i64 c, .slice A n m, .slice A' n' m'] : Array Value).toList := by simp
theorem rowsAt_lt {n i : Nat} (h : i < n) : 0 + i * 2 + 1 < ((rowsAt n i).flatMap slE).toArray.size := by
  rw [List.size_toArray, slF.length, rowsAt_len (Nat.le_of_lt h)]
  show 0 + i * 2 + 1 < n * 2
  omega
theorem ne_at {g g' : Nat} (h : g ≠ g') (o : Nat) : ¬ AtB g (g', o) := fun e => h (show g' = g from e).symm
set_option maxRecDepth 100000 in
theorem configLimits_walk (w : World) (v0 v1 : Value) (p q : Int) (h0 : (.int .i64 p : Sym).on w noF v0) (h1 : (.int .i64 q : Sym).on w noF v1) : Calls Try.prog 9 #[v0, v1] w fun e w' => e = .returned (.bool true) ∧ Below w.heap.size w w' := by
  obtain ⟨i0, hi0, hz0, hz1, hz2⟩ := info_parts Try.info67s
  go_enter Try.func9, Try.ntmps9
  refine wp_seq ?_
  refine flowC mixed (st0 (U := True) (N := 84) (e := [(0, true, .int .i64 p), (1, true, .int .i64 q)]) (F := noF) rfl rfl (fok_none True w) ⟨⟨rfl, h0⟩, ⟨⟨rfl, h1⟩, True.intro⟩⟩) (by kernel_rfl) (by kernel_rfl) (cc rfl (p_assign g0 (oc _)) cn) fun a1 w1 b1 s1 => ?_
  have z1 := b1
  refine wp_seq ?_
  refine wp_seq ?_
  refine flowC mixed (s1.keep (sc 0 rfl (sc 1 rfl (sc 4 rfl sn)))) (by kernel_rfl) (by kernel_rfl) (cc rfl (p_call 43 g0 ox0 (fun _ _ => by kernel_rfl) f43)
      (cc rfl (p_not g0 (od rfl id)) cn)) fun a2 w2 b2 s2 => ?_
  have z2 := z1.trans (b2.mono z1.size)
  refine s2.cond 8 rfl (fun h => absurd h (by decide)) fun _ => ?_
  refine wp_skip ?_
  refine wp_seq ?_
  refine flowT (s2.keep (sc 0 rfl (sc 1 rfl (sc 4 rfl sn)))) (by kernel_rfl) (cc rfl (p_move g0 (od rfl id))
      (cc rfl (p_bin g0 (od rfl id) (oc _) b_and_3)
      (cc rfl (p_assign g0 (od rfl id)) cn))) fun a3 w3 b3 s3 => ?_
  have z3 := z2.trans (b3.mono z2.size)
  obtain ⟨m, em, hm⟩ := i64_and1 q
  have s3 := s3.more 1 (y := .int .i64 m) (int_as (s3.get 1 rfl) em)
  refine wp_seq ?_
  refine wp_region_lit ?_
  refine chainK 1 (cc rfl (p_bd64v g0 (oc _)) cn) (by kernel_rfl) (s3.keep (sc 0 rfl (sc 1 rfl (sc 4 rfl sn)))) fun a4 w4 b4 s4 => ?_
  have z4 := z3.trans (b4.mono z3.size)
  show wpList _ _ _ (_ :: _) _ _
  refine alloc_F (u := 64) (z := #[.int .u64 0, .int .i64 1]) s4 rfl (by decide) rfl (fun q => .slice (some ⟨q, 0, none⟩) 1 1) (bs_53 _ _ #[.int .u64 0, .int .i64 1] (s4.get 11 rfl) rfl) fun gs a5 w5 ks hgs0 b5 s5 => ?_
  have hgs := Nat.le_trans z4.size hgs0
  have z5 := z4.trans (b5.mono z4.size)
  refine chainK 1 (cc rfl (p_bd59_v g0 (oc _) (oc _) (oc _) (od rfl id)) cn) (by kernel_rfl) s5 fun a6 w6 b6 s6 => ?_
  have z6 := z5.trans (b6.mono z5.size)
  have ks := ks.below b6 ks.lt
  show wpList _ _ _ (_ :: _) _ _
  refine alloc_F (u := 59) (z := #[.int .i64 0, .int .i64 0, .int .i64 0, .slice none 0 0, .slice none 0 0]) s6 rfl (by decide) rfl (fun q => .pointer (some ⟨q, 0, none⟩)) (al_59 _ _) fun g5 a7 w7 k5 hg50 b7 s7 => ?_
  have hgsg5 : gs < g5 := Nat.lt_of_lt_of_le ks.lt hg50
  have hg5 := Nat.le_trans z6.size hg50
  have z7 := z6.trans (b7.mono z6.size)
  have ks := ks.below b7 ks.lt
  show wpList _ _ _ (_ :: _) _ _
  refine row_F (F' := AtB g5) 5 13 s7 rfl rfl rfl rfl rfl k5 rfl (by kernel_rfl) (by simp [Value.oneCell']) (vv 0 rfl (vv 1 rfl (vv 5 rfl vn))) (fun w' h1 h2 => fok_row h1 fun _ => nou59 _ _ _ _ _ _ _ _ _) fun a8 w8 k5 g8 s8 => ?_
  have ks := ks.grown g8 (by simp; omega)
  have z8 := z7.grown g8 z7.size (fun k e => by cases e; exact hg5)
  refine wpList_done ?_
  refine wp_seq ?_
  refine wp_seq ?_
  refine flowC mixed (s8.keep (sc 0 rfl (sc 1 rfl (sc 5 rfl sn)))) (by kernel_rfl) (by kernel_rfl) (cc rfl (p_move g0 (od rfl id))
      (cc rfl (p_bin g0 (od rfl id) (oc _) (b_rem_3 (by decide)))
      (cc rfl (p_bin g0 (od rfl id) (oc _) b_add_3)
      (cc rfl (p_bin g0 (od rfl id) (oc _) (b_rem_3 (by decide))) cn)))) fun a9 w9 b9 s9 => ?_
  have z9 := z8.trans (b9.mono z8.size)
  have ks := ks.below b9 ks.lt
  have k5 := k5.below b9 k5.lt
  obtain ⟨q7, hq7, eq7⟩ := seven_is p
  have s9 := s9.more 17 (y := .int .i64 (q7 : Int)) (int_as (s9.get 17 rfl) eq7)
  refine wp_block ?_
  refine wp_seq ?_
  refine flowC mixed (s9.keep (sc 1 rfl (sc 5 rfl (sc 17 rfl sn)))) (by kernel_rfl) (by kernel_rfl) (cc rfl (p_bin g0 (od rfl id) (oc _) b_eql_3)
      (cc rfl (p_assign g0 (od rfl id)) cn)) fun a10 w10 b10 s10 => ?_
  have z10 := z9.trans (b10.mono z9.size)
  have ks := ks.below b10 ks.lt
  have k5 := k5.below b10 k5.lt
  refine s10.cond 24 rfl (fun h24 => ?_) (fun h24 => ?_)
  · -- true
    refine wp_region_lit ?_
    refine chainK 3 (cc rfl (p_move g0 (od rfl id))
        (cc rfl (p_binE (n' := 4 + m) (by rw [IntKind.wrap_i64]; omega) g0 (oc _) (od rfl id) b_add_3)
        (cc rfl (p_faV0 fa_59_0 g0 (od rfl id)) cn))) (by kernel_rfl) (s10.keep (sc 1 rfl (sc 5 rfl sn))) fun a11 w11 b11 s11 => ?_
    have z11 := z10.trans (b11.mono z10.size)
    have ks := ks.below b11 ks.lt
    have k5 := k5.below b11 k5.lt
    show wpList _ _ _ (_ :: _) _ _
    refine cell_F (F' := AtB g5) s11 rfl rfl rfl (od rfl id) (od rfl id) k5 (by simp) (by rfl) (by kernel_rfl) (by rfl) (vv 1 rfl (vv 5 rfl vn)) (fun w' h1 h2 => fok_row h1 fun _ => nou59 _ _ _ _ _ _ _ _ _) fun a12 w12 k5 g12 s12 => ?_
    have k5 : Blk w12 g5 59 #[.int .i64 (4 + m), .int .i64 100, .int .i64 9, .slice (some ⟨gs, 0, none⟩) 1 1, .slice none 0 0] := k5
    have ks := ks.grown g12 (by simp; omega)
    have z12 := z11.grown g12 z11.size (fun k e => by cases e; exact hg5)
    refine wpList_done ?_
    refine wp_seq ?_
    have hL5 : cfL.on w12 (AtB g5) _ (⟨(4 + m), 100, 9, [(0, 1)], []⟩ : Cf) := cf_of (slots_of (l := [(0, 1)]) ks (by simp) (ne_at (by omega))) nil_of
    refine wp_region_lit ?_
    show wpList _ _ _ (_ :: _) _ _
    have s12 := (s12.keep (sc 1 rfl (sc 5 rfl sn)))
    refine ldrow_on (L := cfL) s12 rfl rfl (by decide) rfl (od rfl id) k5 hL5 u_59 ur_59 sz_59 fun a13 s13 => ?_
    have z13 := z12
    refine chainT (t := []) (cc rfl (p_call 46 g0 (ox (od2 rfl id) ox0) (fun _ _ => by kernel_rfl) (f46 (Nat.zero_le _) (by show 1 ≤ maxLen; decide) (fun o ho => by cases ho)))
        (cc rfl (p_move g0 (od rfl id))
        (cc rfl (p_bin g0 (od rfl id) (oc _) b_eql_3)
        (cc rfl (p_bin g0 (od rfl id) (od rfl id) b_eql_4)
        (cc rfl (p_assign g0 (od rfl id)) cn))))) (by kernel_rfl) s13 fun a14 w14 b14 s14 => wpList_done ?_
    have z14 := z13.trans (b14.mono z13.size)
    have ks := ks.below b14 ks.lt
    have k5 := k5.below b14 k5.lt
    have s14 := s14.more 4 (y := .bool true) (bool_as (s14.get 4 rfl) (by rcases hm with rfl | rfl <;> kernel_rfl))
    exact wp_ret (ret_law (fn := Try.f9) s14 4 rfl rfl rfl z14)
  · -- false
    refine wp_seq ?_
    refine flowC mixed (s10.keep (sc 1 rfl (sc 5 rfl (sc 17 rfl sn)))) (by kernel_rfl) (by kernel_rfl) (cc rfl (p_bin g0 (od rfl id) (oc _) b_eql_3)
        (cc rfl (p_assign g0 (od rfl id)) cn)) fun a15 w15 b15 s15 => ?_
    have z15 := z10.trans (b15.mono z10.size)
    have ks := ks.below b15 ks.lt
    have k5 := k5.below b15 k5.lt
    refine s15.cond 29 rfl (fun h29 => ?_) (fun h29 => ?_)
    · -- true
      refine wp_region_lit ?_
      refine chainK 3 (cc rfl (p_move g0 (od rfl id))
          (cc rfl (p_binE (n' := 4096 + m) (by rw [IntKind.wrap_i64]; omega) g0 (oc _) (od rfl id) b_add_3)
          (cc rfl (p_faV0 fa_59_1 g0 (od rfl id)) cn))) (by kernel_rfl) (s15.keep (sc 1 rfl (sc 5 rfl sn))) fun a16 w16 b16 s16 => ?_
      have z16 := z15.trans (b16.mono z15.size)
      have ks := ks.below b16 ks.lt
      have k5 := k5.below b16 k5.lt
      show wpList _ _ _ (_ :: _) _ _
      refine cell_F (F' := AtB g5) s16 rfl rfl rfl (od rfl id) (od rfl id) k5 (by simp) (by rfl) (by kernel_rfl) (by rfl) (vv 1 rfl (vv 5 rfl vn)) (fun w' h1 h2 => fok_row h1 fun _ => nou59 _ _ _ _ _ _ _ _ _) fun a17 w17 k5 g17 s17 => ?_
      have k5 : Blk w17 g5 59 #[.int .i64 1, .int .i64 (4096 + m), .int .i64 9, .slice (some ⟨gs, 0, none⟩) 1 1, .slice none 0 0] := k5
      have ks := ks.grown g17 (by simp; omega)
      have z17 := z16.grown g17 z16.size (fun k e => by cases e; exact hg5)
      refine wpList_done ?_
      refine wp_seq ?_
      have hL5 : cfL.on w17 (AtB g5) _ (⟨1, (4096 + m), 9, [(0, 1)], []⟩ : Cf) := cf_of (slots_of (l := [(0, 1)]) ks (by simp) (ne_at (by omega))) nil_of
      refine wp_region_lit ?_
      show wpList _ _ _ (_ :: _) _ _
      have s17 := (s17.keep (sc 1 rfl (sc 5 rfl sn)))
      refine ldrow_on (L := cfL) s17 rfl rfl (by decide) rfl (od rfl id) k5 hL5 u_59 ur_59 sz_59 fun a18 s18 => ?_
      have z18 := z17
      refine chainT (t := []) (cc rfl (p_call 46 g0 (ox (od2 rfl id) ox0) (fun _ _ => by kernel_rfl) (f46 (Nat.zero_le _) (by show 1 ≤ maxLen; decide) (fun o ho => by cases ho)))
          (cc rfl (p_move g0 (od rfl id))
          (cc rfl (p_bin g0 (od rfl id) (oc _) b_eql_3)
          (cc rfl (p_bin g0 (od rfl id) (od rfl id) b_eql_4)
          (cc rfl (p_assign g0 (od rfl id)) cn))))) (by kernel_rfl) s18 fun a19 w19 b19 s19 => wpList_done ?_
      have z19 := z18.trans (b19.mono z18.size)
      have ks := ks.below b19 ks.lt
      have k5 := k5.below b19 k5.lt
      have s19 := s19.more 4 (y := .bool true) (bool_as (s19.get 4 rfl) (by rcases hm with rfl | rfl <;> kernel_rfl))
      exact wp_ret (ret_law (fn := Try.f9) s19 4 rfl rfl rfl z19)
    · -- false
      refine wp_seq ?_
      refine flowC mixed (s15.keep (sc 1 rfl (sc 5 rfl (sc 17 rfl sn)))) (by kernel_rfl) (by kernel_rfl) (cc rfl (p_bin g0 (od rfl id) (oc _) b_eql_3)
          (cc rfl (p_assign g0 (od rfl id)) cn)) fun a20 w20 b20 s20 => ?_
      have z20 := z15.trans (b20.mono z15.size)
      have ks := ks.below b20 ks.lt
      have k5 := k5.below b20 k5.lt
      refine s20.cond 34 rfl (fun h34 => ?_) (fun h34 => ?_)
      · -- true
        refine wp_region_lit ?_
        refine chainK 3 (cc rfl (p_move g0 (od rfl id))
            (cc rfl (p_binE (n' := 4194302 + m) (by rw [IntKind.wrap_i64]; omega) g0 (oc _) (od rfl id) b_add_3)
            (cc rfl (p_faV0 fa_59_2 g0 (od rfl id)) cn))) (by kernel_rfl) (s20.keep (sc 1 rfl (sc 5 rfl sn))) fun a21 w21 b21 s21 => ?_
        have z21 := z20.trans (b21.mono z20.size)
        have ks := ks.below b21 ks.lt
        have k5 := k5.below b21 k5.lt
        show wpList _ _ _ (_ :: _) _ _
        refine cell_F (F' := AtB g5) s21 rfl rfl rfl (od rfl id) (od rfl id) k5 (by simp) (by rfl) (by kernel_rfl) (by rfl) (vv 1 rfl (vv 5 rfl vn)) (fun w' h1 h2 => fok_row h1 fun _ => nou59 _ _ _ _ _ _ _ _ _) fun a22 w22 k5 g22 s22 => ?_
        have k5 : Blk w22 g5 59 #[.int .i64 1, .int .i64 100, .int .i64 (4194302 + m), .slice (some ⟨gs, 0, none⟩) 1 1, .slice none 0 0] := k5
        have ks := ks.grown g22 (by simp; omega)
        have z22 := z21.grown g22 z21.size (fun k e => by cases e; exact hg5)
        refine wpList_done ?_
        refine wp_seq ?_
        have hL5 : cfL.on w22 (AtB g5) _ (⟨1, 100, (4194302 + m), [(0, 1)], []⟩ : Cf) := cf_of (slots_of (l := [(0, 1)]) ks (by simp) (ne_at (by omega))) nil_of
        refine wp_region_lit ?_
        show wpList _ _ _ (_ :: _) _ _
        have s22 := (s22.keep (sc 1 rfl (sc 5 rfl sn)))
        refine ldrow_on (L := cfL) s22 rfl rfl (by decide) rfl (od rfl id) k5 hL5 u_59 ur_59 sz_59 fun a23 s23 => ?_
        have z23 := z22
        refine chainT (t := []) (cc rfl (p_call 46 g0 (ox (od2 rfl id) ox0) (fun _ _ => by kernel_rfl) (f46 (Nat.zero_le _) (by show 1 ≤ maxLen; decide) (fun o ho => by cases ho)))
            (cc rfl (p_move g0 (od rfl id))
            (cc rfl (p_bin g0 (od rfl id) (oc _) b_eql_3)
            (cc rfl (p_bin g0 (od rfl id) (od rfl id) b_eql_4)
            (cc rfl (p_assign g0 (od rfl id)) cn))))) (by kernel_rfl) s23 fun a24 w24 b24 s24 => wpList_done ?_
        have z24 := z23.trans (b24.mono z23.size)
        have ks := ks.below b24 ks.lt
        have k5 := k5.below b24 k5.lt
        have s24 := s24.more 4 (y := .bool true) (bool_as (s24.get 4 rfl) (by rcases hm with rfl | rfl <;> kernel_rfl))
        exact wp_ret (ret_law (fn := Try.f9) s24 4 rfl rfl rfl z24)
      · -- false
        refine wp_seq ?_
        refine flowC mixed (s20.keep (sc 1 rfl (sc 5 rfl (sc 17 rfl sn)))) (by kernel_rfl) (by kernel_rfl) (cc rfl (p_bin g0 (od rfl id) (oc _) b_eql_3)
            (cc rfl (p_assign g0 (od rfl id)) cn)) fun a25 w25 b25 s25 => ?_
        have z25 := z20.trans (b25.mono z20.size)
        have ks := ks.below b25 ks.lt
        have k5 := k5.below b25 k5.lt
        refine s25.cond 39 rfl (fun h39 => ?_) (fun h39 => ?_)
        · -- true
          obtain ⟨n, hn⟩ : ∃ n : Nat, (n : Int) = 8 + m := ⟨(8 + m).toNat, by omega⟩
          have h89 : n = 8 ∨ n = 9 := by omega
          refine wp_seq ?_
          refine wp_region_lit ?_
          refine chainK 2 (cc rfl (p_move g0 (od rfl id))
              (cc rfl (p_binE (n' := (n : Int)) (by rw [IntKind.wrap_i64]; omega) g0 (oc _) (od rfl id) b_add_3) cn)) (by kernel_rfl) (s25.keep (sc 1 rfl (sc 5 rfl sn))) fun a26 w26 b26 s26 => ?_
          have z26 := z25.trans (b26.mono z25.size)
          have ks := ks.below b26 ks.lt
          have k5 := k5.below b26 k5.lt
          show wpList _ _ _ (_ :: _) _ _
          refine alloc_F (u := 64) (z := ((rowsAt n 0).flatMap slE).toArray) s26 rfl (by decide) rfl (fun q => .slice (some ⟨q, 0, none⟩) n n) (mk53 h89 _ _ (s26.get 42 rfl) (s26.get 42 rfl)) fun gm a27 w27 km hgm0 b27 s27 => ?_
          have hgsgm : gs < gm := Nat.lt_of_lt_of_le ks.lt hgm0
          have hg5gm : g5 < gm := Nat.lt_of_lt_of_le k5.lt hgm0
          have hgm := Nat.le_trans z26.size hgm0
          have z27 := z26.trans (b27.mono z26.size)
          have ks := ks.below b27 ks.lt
          have k5 := k5.below b27 k5.lt
          refine chainK 1 (cc rfl (p_faV0 fa_59_3 g0 (od rfl id)) cn) (by kernel_rfl) s27 fun a28 w28 b28 s28 => ?_
          have z28 := z27.trans (b28.mono z27.size)
          have ks := ks.below b28 ks.lt
          have k5 := k5.below b28 k5.lt
          have km := km.below b28 km.lt
          show wpList _ _ _ (_ :: _) _ _
          refine cell_F (F' := AtB g5) s28 rfl rfl rfl (od rfl id) (od rfl id) k5 (by simp) (by rfl) (by kernel_rfl) (by rfl) (vv 1 rfl (vv 5 rfl vn)) (fun w' h1 h2 => fok_row h1 fun _ => nou59 _ _ _ _ _ _ _ _ _) fun a29 w29 k5 g29 s29 => ?_
          have k5 : Blk w29 g5 59 #[.int .i64 1, .int .i64 100, .int .i64 9, .slice (some ⟨gm, 0, none⟩) n n, .slice none 0 0] := k5
          have ks := ks.grown g29 (by simp; omega)
          have km := km.grown g29 (by simp; omega)
          have z29 := z28.grown g29 z28.size (fun k e => by cases e; exact hg5)
          refine wpList_done ?_
          refine wp_seq ?_
          refine wp_region_lit ?_
          refine chainK 1 (cc rfl (p_faV0 fa_59_3 g0 (od rfl id)) cn) (by kernel_rfl) (s29.keep (sc 1 rfl (sc 5 rfl sn))) fun a30 w30 b30 s30 => ?_
          have z30 := z29.trans (b30.mono z29.size)
          have ks := ks.below b30 ks.lt
          have k5 := k5.below b30 k5.lt
          have km := km.below b30 km.lt
          show wpList _ _ _ (_ :: _) _ _
          refine ldcell_on (k := 3) (v := .slice (some ⟨gm, 0, none⟩) n n) (y := .any) s30 rfl (by decide) rfl (fun ev w b off v h1 h2 => ld_53 ev w b off v h1 h2) (od rfl id) k5 rfl True.intro fun a31 s31 => ?_
          have z31 := z30
          refine chainT (t := []) (cc rfl (p_lenV ln_53 g0 (od rfl id))
              (cc rfl (p_move g0 (oc _)) cn)) (by kernel_rfl) s31 fun a32 w32 b32 s32 => wpList_done ?_
          have z32 := z31.trans (b32.mono z31.size)
          have ks := ks.below b32 ks.lt
          have k5 := k5.below b32 k5.lt
          have km := km.below b32 km.lt
          refine wp_block ?_
          refine wp_count n 48 (TkI w g5 gm n m) (fun _ _ _ h => h.2.get 48 rfl) ⟨⟨k5, km, z32⟩, s32.to _ ⟨rfl, rfl, rfl, rfl, True.intro⟩⟩ fun i a33 w33 hi33 hI => ?_
          obtain ⟨⟨k5, km, z33⟩, s33⟩ := hI
          refine wp_seq ?_
          refine flowC mixed (s33.keep (sc 1 rfl (sc 5 rfl (sc 47 rfl (sc 48 rfl sn))))) (by kernel_rfl) (by kernel_rfl) (cc rfl (p_bin g0 (od rfl id) (od rfl id) b_lss_3) cn) fun a34 w34 b34 s34 => ?_
          have z34 := z33.trans (b34.mono z33.size)
          have k5 := k5.below b34 k5.lt
          have km := km.below b34 km.lt
          refine wp_seq ?_
          refine s34.cond 49 rfl (fun h49 => ?_) (fun h49 => ?_)
          · -- true
            have hin : i < n := by simpa using h49
            refine wp_skip ?_
            refine wp_seq ?_
            refine wp_block ?_
            refine wp_seq ?_
            refine flowC mixed (s34.keep (sc 1 rfl (sc 5 rfl (sc 47 rfl (sc 48 rfl (sc 49 rfl sn)))))) (by kernel_rfl) (by kernel_rfl) (cc rfl (p_move g0 (od rfl id))
                (cc rfl (p_assign g0 (od rfl id)) cn)) fun a35 w35 b35 s35 => ?_
            have z35 := z34.trans (b35.mono z34.size)
            have k5 := k5.below b35 k5.lt
            have km := km.below b35 km.lt
            refine wp_region_lit ?_
            refine chainK 1 (cc rfl (p_faV0 fa_59_3 g0 (od rfl id)) cn) (by kernel_rfl) (s35.keep (sc 1 rfl (sc 5 rfl (sc 6 rfl (sc 47 rfl (sc 48 rfl (sc 49 rfl (sc 50 rfl sn)))))))) fun a36 w36 b36 s36 => ?_
            have z36 := z35.trans (b36.mono z35.size)
            have k5 := k5.below b36 k5.lt
            have km := km.below b36 km.lt
            show wpList _ _ _ (_ :: _) _ _
            refine ldcell_on (k := 3) (v := .slice (some ⟨gm, 0, none⟩) n n) (y := .any) s36 rfl (by decide) rfl (fun ev w b off v h1 h2 => ld_53 ev w b off v h1 h2) (od rfl id) k5 rfl True.intro fun a37 s37 => ?_
            have z37 := z36
            refine chainK 3 (cc rfl (p_move g0 (od rfl id))
                (cc rfl (p_idxV ix_53 hin g0 (od rfl id) (od rfl id))
                (cc rfl (p_faV0 fa_64_1 g0 (od rfl id)) cn))) (by kernel_rfl) s37 fun a38 w38 b38 s38 => ?_
            have z38 := z37.trans (b38.mono z37.size)
            have k5 := k5.below b38 k5.lt
            have km := km.below b38 km.lt
            show wpList _ _ _ (_ :: _) _ _
            refine cell_F (F' := AtB g5) s38 rfl rfl rfl (od rfl id) (oc _) km (rowsAt_lt hin) (by rfl) (by kernel_rfl) (by rfl) (vv 48 rfl (vv 47 rfl (vv 1 rfl (vv 5 rfl vn)))) (fun w' h1 h2 => fok_row (k5.grown h2 (by simp; omega)) fun _ => nou59 _ _ _ _ _ _ _ _ _) fun a39 w39 km g39 s39 => ?_
            have k5 := k5.grown g39 (by simp; omega)
            have z39 := z38.grown g39 z38.size (fun k e => by cases e; exact hgm)
            rw [show 0 + i * 2 + 1 = i * 2 + 1 by omega, rowsAt_set hin] at km
            refine wpList_done ?_
            refine flowT (s39.keep (sc 1 rfl (sc 5 rfl (sc 47 rfl (sc 48 rfl sn))))) (by kernel_rfl) (cc rfl (p_bin g0 (od rfl id) (oc _) (inc_3 (by omega)))
                (cc rfl (p_move g0 (od rfl id)) cn)) fun a40 w40 b40 s40 => ?_
            have z40 := z39.trans (b40.mono z39.size)
            have k5 := k5.below b40 k5.lt
            have km := km.below b40 km.lt
            exact ⟨hin, ⟨k5, km, z40⟩, s40.to _ ⟨rfl, rfl, rfl, rfl, True.intro⟩⟩
          · -- false
            obtain rfl : i = n := by have := of_decide_eq_false h49; (try dsimp only at this); omega
            rw [rowsAt_end] at km
            refine wp_exit ?_
            refine wp_seq ?_
            have hL5 : cfL.on w34 (AtB g5) _ (⟨1, 100, 9, List.replicate i (0, 1), []⟩ : Cf) := cf_of (by have := slots_of (F := AtB g5) km (by rw [List.length_replicate]; omega) (ne_at (by omega)); rw [List.length_replicate] at this; exact this) nil_of
            refine wp_region_lit ?_
            show wpList _ _ _ (_ :: _) _ _
            have s34 := (s34.keep (sc 1 rfl (sc 5 rfl sn)))
            refine ldrow_on (L := cfL) s34 rfl rfl (by decide) rfl (od rfl id) k5 hL5 u_59 ur_59 sz_59 fun a41 s41 => ?_
            have z41 := z34
            refine chainT (t := []) (cc rfl (p_call 46 g0 (ox (od2 rfl id) ox0) (fun _ _ => by kernel_rfl) (f46 (Nat.zero_le _) (by show (List.replicate _ _).length ≤ _; rw [List.length_replicate]; (try unfold maxLen); omega) (fun o ho => by cases ho)))
                (cc rfl (p_move g0 (od rfl id))
                (cc rfl (p_bin g0 (od rfl id) (oc _) b_eql_3)
                (cc rfl (p_bin g0 (od rfl id) (od rfl id) b_eql_4)
                (cc rfl (p_assign g0 (od rfl id)) cn))))) (by kernel_rfl) s41 fun a42 w42 b42 s42 => wpList_done ?_
            have z42 := z41.trans (b42.mono z41.size)
            have k5 := k5.below b42 k5.lt
            have km := km.below b42 km.lt
            have s42 := s42.more 4 (y := .bool true) (bool_as (s42.get 4 rfl) (eights hm hn))
            exact wp_ret (ret_law (fn := Try.f9) s42 4 rfl rfl rfl z42)
        · -- false
          refine wp_seq ?_
          refine flowC mixed (s25.keep (sc 1 rfl (sc 5 rfl (sc 17 rfl sn)))) (by kernel_rfl) (by kernel_rfl) (cc rfl (p_bin g0 (od rfl id) (oc _) b_eql_3)
              (cc rfl (p_assign g0 (od rfl id)) cn)) fun a43 w43 b43 s43 => ?_
          have z43 := z25.trans (b43.mono z25.size)
          have ks := ks.below b43 ks.lt
          have k5 := k5.below b43 k5.lt
          refine s43.cond 57 rfl (fun h57 => ?_) (fun h57 => ?_)
          · -- true
            refine wp_region_lit ?_
            refine chainK 1 (cc rfl (p_faV0 fa_59_3 g0 (od rfl id)) cn) (by kernel_rfl) (s43.keep (sc 1 rfl (sc 5 rfl sn))) fun a44 w44 b44 s44 => ?_
            have z44 := z43.trans (b44.mono z43.size)
            have ks := ks.below b44 ks.lt
            have k5 := k5.below b44 k5.lt
            show wpList _ _ _ (_ :: _) _ _
            refine ldcell_on (k := 3) (v := .slice (some ⟨gs, 0, none⟩) 1 1) (y := .any) s44 rfl (by decide) rfl (fun ev w b off v h1 h2 => ld_53 ev w b off v h1 h2) (od rfl id) k5 rfl True.intro fun a45 s45 => ?_
            have z45 := z44
            refine chainK 4 (cc rfl (p_move g0 (od rfl id))
                (cc rfl (p_binE (n' := 16 + m) (by rw [IntKind.wrap_i64]; omega) g0 (oc _) (od rfl id) b_add_3)
                (cc rfl (p_idxV (i := 0) ix_53 (by decide) g0 (od rfl id) (oc _))
                (cc rfl (p_faV0 fa_64_1 g0 (od rfl id)) cn)))) (by kernel_rfl) s45 fun a46 w46 b46 s46 => ?_
            have z46 := z45.trans (b46.mono z45.size)
            have ks := ks.below b46 ks.lt
            have k5 := k5.below b46 k5.lt
            show wpList _ _ _ (_ :: _) _ _
            refine cell_F (F' := AtB g5) s46 rfl rfl rfl (od rfl id) (od rfl id) ks (by simp) (by rfl) (by kernel_rfl) (by rfl) (vv 1 rfl (vv 5 rfl vn)) (fun w' h1 h2 => fok_row (k5.grown h2 (by simp; omega)) fun _ => nou59 _ _ _ _ _ _ _ _ _) fun a47 w47 ks g47 s47 => ?_
            have ks : Blk w47 gs 64 #[.int .u64 0, .int .i64 (16 + m)] := ks
            have k5 := k5.grown g47 (by simp; omega)
            have z47 := z46.grown g47 z46.size (fun k e => by cases e; exact hgs)
            refine wpList_done ?_
            refine wp_seq ?_
            have hL5 : cfL.on w47 (AtB g5) _ (⟨1, 100, 9, [(0, 16 + m)], []⟩ : Cf) := cf_of (slots_of (l := [(0, 16 + m)]) ks (by simp) (ne_at (by omega))) nil_of
            refine wp_region_lit ?_
            show wpList _ _ _ (_ :: _) _ _
            have s47 := (s47.keep (sc 1 rfl (sc 5 rfl sn)))
            refine ldrow_on (L := cfL) s47 rfl rfl (by decide) rfl (od rfl id) k5 hL5 u_59 ur_59 sz_59 fun a48 s48 => ?_
            have z48 := z47
            refine chainT (t := []) (cc rfl (p_call 46 g0 (ox (od2 rfl id) ox0) (fun _ _ => by kernel_rfl) (f46 (Nat.zero_le _) (by show 1 ≤ maxLen; decide) (fun o ho => by cases ho)))
                (cc rfl (p_move g0 (od rfl id))
                (cc rfl (p_bin g0 (od rfl id) (oc _) b_eql_3)
                (cc rfl (p_bin g0 (od rfl id) (od rfl id) b_eql_4)
                (cc rfl (p_assign g0 (od rfl id)) cn))))) (by kernel_rfl) s48 fun a49 w49 b49 s49 => wpList_done ?_
            have z49 := z48.trans (b49.mono z48.size)
            have ks := ks.below b49 ks.lt
            have k5 := k5.below b49 k5.lt
            have s49 := s49.more 4 (y := .bool true) (bool_as (s49.get 4 rfl) (by rcases hm with rfl | rfl <;> kernel_rfl))
            exact wp_ret (ret_law (fn := Try.f9) s49 4 rfl rfl rfl z49)
          · -- false
            refine wp_seq ?_
            refine flowC mixed (s43.keep (sc 1 rfl (sc 5 rfl (sc 17 rfl sn)))) (by kernel_rfl) (by kernel_rfl) (cc rfl (p_bin g0 (od rfl id) (oc _) b_eql_3)
                (cc rfl (p_assign g0 (od rfl id)) cn)) fun a50 w50 b50 s50 => ?_
            have z50 := z43.trans (b50.mono z43.size)
            have ks := ks.below b50 ks.lt
            have k5 := k5.below b50 k5.lt
            refine s50.cond 65 rfl (fun h65 => ?_) (fun h65 => ?_)
            · -- true
              obtain ⟨n, hn⟩ : ∃ n : Nat, (n : Int) = 64 + m := ⟨(64 + m).toNat, by omega⟩
              have hn65 : n ≤ 65 := by omega
              refine wp_seq ?_
              refine flowC mixed (s50.keep (sc 1 rfl (sc 5 rfl sn))) (by kernel_rfl) (by kernel_rfl) (cc rfl (p_move g0 (od rfl id))
                  (cc rfl (p_binE (n' := (n : Int)) (by rw [IntKind.wrap_i64]; omega) g0 (oc _) (od rfl id) b_add_3)
                  (cc rfl (p_move g0 (oc _)) cn))) fun a51 w51 b51 s51 => ?_
              have z51 := z50.trans (b51.mono z50.size)
              have ks := ks.below b51 ks.lt
              have k5 := k5.below b51 k5.lt
              refine wp_block ?_
              refine wp_count n 69 (LimI w g5 gs n m) (fun _ _ _ ⟨_, _, h⟩ => h.get 69 rfl) ⟨_, ⟨k5, ks, GrowsL.nil, z51⟩, s51.to _ ⟨rfl, rfl, rfl, rfl, True.intro⟩⟩ fun i a52 w52 hi52 hI => ?_
              obtain ⟨v, ⟨k5, ks, gr, z52⟩, s52⟩ := hI
              refine wp_seq ?_
              refine flowC mixed (s52.keep (sc 1 rfl (sc 5 rfl (sc 68 rfl (sc 69 rfl sn))))) (by kernel_rfl) (by kernel_rfl) (cc rfl (p_bin g0 (od rfl id) (od rfl id) b_lss_3) cn) fun a53 w53 b53 s53 => ?_
              have z53 := z52.trans (b53.mono z52.size)
              have k5 := k5.below b53 k5.lt
              have ks := ks.below b53 ks.lt
              have gr := gr.below b53
              refine wp_seq ?_
              refine s53.cond 70 rfl (fun h70 => ?_) (fun h70 => ?_)
              · -- true
                have hin : i < n := by simpa using h70
                refine wp_skip ?_
                refine wp_seq ?_
                refine wp_block ?_
                have s53 := s53.toF (gr.fok (fok_row k5 fun _ => by obtain ⟨csr, hro, _⟩ := gr.row; obtain ⟨A, cp, rfl⟩ := own_slice hro; exact nou59 _ _ _ _ _ _ _ _ _)) (vv 69 rfl (vv 68 rfl (vv 1 rfl (vv 5 rfl vn))))
                refine wp_region_lit ?_
                refine chainK 1 (cc rfl (p_faV0 fa_59_4 g0 (od rfl id)) cn) (by kernel_rfl) (s53.keep (sc 1 rfl (sc 5 rfl (sc 68 rfl (sc 69 rfl sn))))) fun a54 w54 b54 s54 => ?_
                have z54 := z53.trans (b54.mono z53.size)
                have k5 := k5.below b54 k5.lt
                have ks := ks.below b54 ks.lt
                have gr := gr.below b54
                show wpList _ _ _ (_ :: _) _ _
                refine ldcell_on (k := 4) (v := v) (y := .any) s54 rfl (by decide) rfl (fun ev w b off v h1 h2 => ld_57 ev w b off v h1 h2) (od rfl id) k5 rfl True.intro fun a55 s55 => ?_
                have z55 := z54
                refine chainK 3 (cc rfl (p_bd39 g0 (oc _))
                    (cc rfl (p_bd67_6 g0 (oc _) (od rfl id))
                    (cc rfl (p_litL bs_57 g0 (od rfl id)) cn))) (by kernel_rfl) s55 fun a56 w56 b56 s56 => ?_
                have z56 := z55.trans (b56.mono z55.size)
                have k5 := k5.below b56 k5.lt
                have ks := ks.below b56 ks.lt
                have gr := gr.below b56
                show wpList _ _ _ (_ :: _) _ _
                obtain ⟨csr, hro, _⟩ := gr.row
                have hn5 := own_ne hro k5 (by decide)
                have hns := own_ne hro ks (by decide)
                refine growL_step (B := w.heap.size) 72 75 s56 gr rfl rfl (by decide) rfl Try.underlying57 hi0 hz0 hz1 hz2 rfl (by decide) rfl rfl z56.size (by rw [List.length_replicate]; unfold maxLen; omega) (by rw [List.length_replicate]; omega) (fun _ y => by simp [Value.cells]) nuob fun v2 a57 w57 gr2 g57 eo57 s57 => ?_
                have k5 := k5.grown g57 hn5
                have ks := ks.grown g57 hns
                have z57 := z56.grown g57 z56.size (fun k e => (gr.lt e).1)
                have s57 := s57.more 76 (y := .val v2) (s57.get 76 rfl).1
                refine chainK 1 (cc rfl (p_faV0 fa_59_4 g0 (od rfl id)) cn) (by kernel_rfl) s57 fun a58 w58 b58 s58 => ?_
                have z58 := z57.trans (b58.mono z57.size)
                have k5 := k5.below b58 k5.lt
                have ks := ks.below b58 ks.lt
                have gr2 := gr2.below b58
                show wpList _ _ _ (_ :: _) _ _
                obtain ⟨csr, hro, _⟩ := gr2.row
                refine cell_F (F' := AtB g5) s58 rfl rfl rfl (od rfl id) (od rfl id) k5 (by simp) (slice_one hro).2 (by kernel_rfl) (slice_one hro).1 (vv 69 rfl (vv 68 rfl (vv 1 rfl (vv 5 rfl vn)))) (fun w' h1 h2 => fok_row h1 fun _ => by obtain ⟨A, cp, rfl⟩ := own_slice hro; exact nou59 _ _ _ _ _ _ _ _ _) fun a59 w59 k5 g59 s59 => ?_
                have k5 : Blk w59 g5 59 #[.int .i64 1, .int .i64 100, .int .i64 9, .slice (some ⟨gs, 0, none⟩) 1 1, v2] := k5
                have ks := ks.grown g59 (by simp; omega)
                have gr2 := gr2.wrote g59 (fun _ => rfl)
                have z59 := z58.grown g59 z58.size (fun k e => by cases e; exact hg5)
                refine wpList_done ?_
                refine flowT (s59.keep (sc 1 rfl (sc 5 rfl (sc 68 rfl (sc 69 rfl sn))))) (by kernel_rfl) (cc rfl (p_bin g0 (od rfl id) (oc _) (inc_3 (by omega)))
                    (cc rfl (p_move g0 (od rfl id)) cn)) fun a60 w60 b60 s60 => ?_
                have z60 := z59.trans (b60.mono z59.size)
                have k5 := k5.below b60 k5.lt
                have ks := ks.below b60 ks.lt
                have gr2 := gr2.below b60
                exact ⟨hin, v2, ⟨k5, ks, by rw [List.replicate_succ']; exact gr2, z60⟩, s60.to _ ⟨rfl, rfl, rfl, rfl, True.intro⟩⟩
              · -- false
                obtain rfl : i = n := by have := of_decide_eq_false h70; (try dsimp only at this); omega
                refine wp_exit ?_
                refine wp_seq ?_
                have hL5 : cfL.on w53 (AtB g5) _ (⟨1, 100, 9, [(0, 1)], List.replicate i dev0⟩ : Cf) := cf_of (slots_of (l := [(0, 1)]) ks (by simp) (ne_at (by omega))) ((Lay.sl obL).mono gr.sl (.refl _ _) fun _ _ h => .inl h)
                refine wp_region_lit ?_
                show wpList _ _ _ (_ :: _) _ _
                have s53 := (s53.keep (sc 1 rfl (sc 5 rfl sn)))
                refine ldrow_on (L := cfL) s53 rfl rfl (by decide) rfl (od rfl id) k5 hL5 u_59 ur_59 sz_59 fun a61 s61 => ?_
                have z61 := z53
                refine chainT (t := []) (cc rfl (p_call 46 g0 (ox (od2 rfl id) ox0) (fun _ _ => by kernel_rfl) (f46 (by show (List.replicate _ _).length ≤ _; rw [List.length_replicate]; (try unfold maxLen); omega) (by show 1 ≤ maxLen; decide) (fun o ho => by obtain ⟨_, rfl⟩ := List.mem_replicate.1 ho; exact Nat.zero_le _)))
                    (cc rfl (p_move g0 (od rfl id))
                    (cc rfl (p_bin g0 (od rfl id) (oc _) b_eql_3)
                    (cc rfl (p_bin g0 (od rfl id) (od rfl id) b_eql_4)
                    (cc rfl (p_assign g0 (od rfl id)) cn))))) (by kernel_rfl) s61 fun a62 w62 b62 s62 => wpList_done ?_
                have z62 := z61.trans (b62.mono z61.size)
                have k5 := k5.below b62 k5.lt
                have ks := ks.below b62 ks.lt
                have s62 := s62.more 4 (y := .bool true) (bool_as (s62.get 4 rfl) (sixtyfour hm hn))
                exact wp_ret (ret_law (fn := Try.f9) s62 4 rfl rfl rfl z62)
            · -- false
              refine wp_region_lit ?_
              refine chainK 6 (cc rfl (p_bd39 g0 (oc _))
                  (cc rfl (p_move g0 (od rfl id))
                  (cc rfl (p_binE (n' := 16 + m) (by rw [IntKind.wrap_i64]; omega) g0 (oc _) (od rfl id) b_add_3)
                  (cc rfl (p_bd67_7 g0 (oc _) (od rfl id) (od rfl id))
                  (cc rfl (p_litL bs_57 g0 (od rfl id))
                  (cc rfl (p_faV0 fa_59_4 g0 (od rfl id)) cn)))))) (by kernel_rfl) (s50.keep (sc 1 rfl (sc 5 rfl sn))) fun a63 w63 b63 s63 => ?_
              have z63 := z50.trans (b63.mono z50.size)
              have ks := ks.below b63 ks.lt
              have k5 := k5.below b63 k5.lt
              show wpList _ _ _ (_ :: _) _ _
              obtain ⟨⟨gl, csl, el, kl, hll, hnl⟩, hol⟩ := s63.get 22 rfl
              rw [el] at hol
              have s63 := s63.more 22 (y := .val (.slice (some ⟨gl, 0, none⟩) 1 1)) el
              refine cell_F (F' := AtB g5) s63 rfl rfl rfl (od rfl id) (od rfl id) k5 (by simp) (by rfl) (by kernel_rfl) (by rfl) (vv 1 rfl (vv 5 rfl vn)) (fun w' h1 h2 => fok_row h1 fun _ => nou59 _ _ _ _ _ _ _ _ _) fun a64 w64 k5 g64 s64 => ?_
              have k5 : Blk w64 g5 59 #[.int .i64 1, .int .i64 100, .int .i64 9, .slice (some ⟨gs, 0, none⟩) 1 1, .slice (some ⟨gl, 0, none⟩) 1 1] := k5
              have ks := ks.grown g64 (by simp; omega)
              have z64 := z63.grown g64 z63.size (fun k e => by cases e; exact hg5)
              have hol := (Lay.sl obL).mono hol (keeps_grown g64 (F := AtB g5) fun _ => rfl) (F' := AtB g5) fun _ _ h => h
              refine wpList_done ?_
              refine wp_seq ?_
              have hL5 : cfL.on w64 (AtB g5) _ (⟨1, 100, 9, [(0, 1)], [⟨2, 0, ⟨2, []⟩, ⟨0, []⟩, 16 + m, 0, [], [], 0, 0⟩]⟩ : Cf) := cf_of (slots_of (l := [(0, 1)]) ks (by simp) (ne_at (by omega))) hol
              refine wp_region_lit ?_
              show wpList _ _ _ (_ :: _) _ _
              have s64 := (s64.keep (sc 1 rfl (sc 5 rfl sn)))
              refine ldrow_on (L := cfL) s64 rfl rfl (by decide) rfl (od rfl id) k5 hL5 u_59 ur_59 sz_59 fun a65 s65 => ?_
              have z65 := z64
              refine chainT (t := []) (cc rfl (p_call 46 g0 (ox (od2 rfl id) ox0) (fun _ _ => by kernel_rfl) (f46 (by show 1 ≤ 100000; decide) (by show 1 ≤ maxLen; decide) (fun o ho => by obtain rfl := List.mem_singleton.1 ho; exact Nat.zero_le _)))
                  (cc rfl (p_move g0 (od rfl id))
                  (cc rfl (p_bin g0 (od rfl id) (oc _) b_eql_3)
                  (cc rfl (p_bin g0 (od rfl id) (od rfl id) b_eql_4)
                  (cc rfl (p_assign g0 (od rfl id)) cn))))) (by kernel_rfl) s65 fun a66 w66 b66 s66 => wpList_done ?_
              have z66 := z65.trans (b66.mono z65.size)
              have ks := ks.below b66 ks.lt
              have k5 := k5.below b66 k5.lt
              have s66 := s66.more 4 (y := .bool true) (bool_as (s66.get 4 rfl) (by rcases hm with rfl | rfl <;> kernel_rfl))
              exact wp_ret (ret_law (fn := Try.f9) s66 4 rfl rfl rfl z66)

set_option maxRecDepth 100000 in
theorem configLimits_lifted (os : Os) (started : os.Started) (H : Type) (enc : TypeId × Value → H) :
    ReturnsInHanded {} Try.checked os 9 .any (Rows.configLimitsSpec.pre6 enc Try.prog Try.f9 Rows.configLimitsRow.domain false) (Rows.configLimitsSpec.post enc Try.prog Try.f9 false true false false) := by
  refine lifted_of (C := Try.checked) laidOut own started (by kernel_rfl) Try.func9 rfl Try.underlying4 (by kernel_rfl) rfl
    (fun ds hds => by match ds, hds with | [_, _], _ => rfl)
    (ChangeSpec.witness6 (enc := enc) (C := Try.checked) false ⟨#[], #[.int .i64 0, .int .i64 0], []⟩ 8 (by kernel_rfl) (by kernel_rfl) (by kernel_rfl) (by kernel_rfl)) ?_
  intro w base args ds ps hval0 hA0 hlt
  have hval : ∀ (j : Nat) t v, Try.f9.params[j]? = some t → args[j]? = some v → Value.okWide Try.prog w .any base t v := hval0
  have hA : DataW.TrodAll enc Try.prog w 0 (fun _ => true) true Try.f9.params.toList args.toList ds ps := hA0
  rw [Try.params9] at hA hval
  obtain ⟨v0, vs0, d0, ds0, p0, q0, hargs, rfl, rfl, h0, r0⟩ := trodAll_cons hA
  obtain ⟨v1, vs1, d1, ds1, p1, q1, rfl, rfl, rfl, h1, r1⟩ := trodAll_cons r0
  obtain ⟨rfl, rfl, rfl⟩ := trodAll_nil r1
  obtain rfl : args = #[v0, v1] := by cases args; simp_all
  obtain ⟨x0, rfl, rfl, rfl, o0⟩ := open_int Try.underlying3 (hval 0 3 v0 rfl rfl) h0
  obtain ⟨x1, rfl, rfl, rfl, o1⟩ := open_int Try.underlying3 (hval 1 3 v1 rfl rfl) h1
  exact configLimits_walk w _ _ _ _ rfl rfl

set_option maxRecDepth 100000 in
theorem configLimits_facts : joinedFacts Try.pinned.checked.prog 9 Try.f9 Rows.configLimitsSpec Rows.configLimitsRow = true := by
  show joinedFacts Try.prog 9 Try.f9 Rows.configLimitsSpec Rows.configLimitsRow = true
  unfold joinedFacts
  rw [mayEnter_ok, liftsFinal_ok, make_ok]
  kernel_rfl
theorem configLimits_holds : Rows.ConfigLimitsSaid :=
  OpenClaim.holds_of_wide 9 Try.f9 rfl rfl rfl rfl rfl rfl rfl ⟨rfl, rfl, rfl, rfl, rfl⟩ rfl rfl rfl rfl rfl (by kernel_rfl) Try.func9 configLimits_facts
    (of_decide_eq_true (by kernel_rfl)) (by unfold Func.isWrapper; rw [if_neg (of_decide_eq_false (by kernel_rfl))]; exact ⟨rfl, rfl⟩)
    (fun os started H enc _ => configLimits_lifted os started H enc)
#print axioms configLimits_holds

end Go.Proofs.Ytihddficgpjgpaa.Y
