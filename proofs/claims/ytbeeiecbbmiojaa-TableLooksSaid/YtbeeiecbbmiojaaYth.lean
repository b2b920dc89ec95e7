/- Yth: the example of the laws on tables: the walk -/
import Derived.Test.YtbeeiecbbmiojaaYtt
import Derived.Test.YtbeeiecbbmiojaaYtg
namespace Go.Proofs.Ytbeeiecbbmiojaa.Y
open Go.RowKit Go.ChangeShapes Go.WideShapes Go.ChangeAt Go.ChangeMaps Go.MapKept

theorem b_eqT {d : Nat} {t : TypeId} {p : String} {af : Array Edge} {g : Option (Nat × Bool)} {x x2 : Operand} {b : Nat} : Run2 Try.prog ⟨some d, .binOp .eql 24 x x2 24, t, p, af, g⟩ x x2 (.pointer (some ⟨b, 0, none⟩)) (.pointer none) (.bool false) := fun ev w h1 h2 => by go_simp
theorem objAt0 {w : World} {B g : Nat} {o : TO} {cs : Array Value} (hk : o.kids = []) (ht : o.th = none) (hB : Blk w g 48 cs) (e : cs = toC o (.slice none 0 0)) : ObjAt w B g o (.slice none 0 0) := ⟨e ▸ hB, by rw [hk]; exact World.ownsRow_nil _ _ _ _, fun x on h => by rw [ht] at h; cases h⟩
theorem no_at {w : World} {B gT gM g : Nat} {t : Tab} {kv : Nat → Value} (h : TabAt w B gT gM t kv) (hg : w.heap.size ≤ g) : t.ob g = none := by
  cases ho : t.ob g with
  | none => rfl
  | some o => exact absurd (h.ob g o ho).blk.lt (Nat.not_lt.2 hg)
theorem fit_len1 (g1 : Nat) : ∀ x q, (T1 g1).ob x = some q → q.kids.length ≤ 100000 := fun x q h => by
  by_cases e : x = g1
  · subst e
    have h : upd (fun _ => (none : Option TO)) x (some rootO) x = some q := h
    rw [upd_self] at h
    injection h with h
    subst h
    simp
  · have h : upd (fun _ => (none : Option TO)) g1 (some rootO) x = some q := h
    rw [upd_ne e] at h
    cases h
theorem fit_len2 {g1 g2 : Nat} (hne : g2 ≠ g1) : ∀ x q, (T2 g1 g2).ob x = some q → q.kids.length ≤ 100000 := fun x q h => by
  by_cases e : x = g2
  · subst e
    rw [fit_ob2] at h
    injection h with h
    subst h
    simp
  · by_cases e1 : x = g1
    · subst e1
      rw [fit_ob1 hne] at h
      injection h with h
      subst h
      simp
    · have h : upd (upd (upd (fun _ => (none : Option TO)) g1 (some rootO)) g1 (some rootK)) g2 (some kidO) x = some q := h
      rw [upd_ne e, upd_ne e1, upd_ne e1] at h
      cases h
theorem bd_48c {n k h : Int} {d : Nat} {t : TypeId} {p : String} {af : Array Edge} {g : Option (Nat × Bool)} : DoneRun Try.prog ⟨some d, .build 48 #[(1, .const (.int .u64 n)), (2, .const (.int .i64 k)), (4, .const (.int .u64 h))], t, p, af, g⟩ (.agg #[.slice none 0 0, .int .u64 0, .int .u64 n, .int .i64 k, .int .i64 0, .slice none 0 0, .int .u64 h, .int .u64 0, .int .i64 0, .int .i64 0, .int .i64 0, .int .i64 0, .int .u64 0, .int .u64 0, .int .u64 0, .slice none 0 0, .slice none 0 0, .int .u64 0, .slice none 0 0, nilP, .int .i64 0, .slice none 0 0, .int .u64 0, .int .u64 0, .slice none 0 0, .slice none 0 0, .slice none 0 0, .slice none 0 0, .slice none 0 0, .slice none 0 0, .slice none 0 0, .slice none 0 0, .int .i64 0, .int .i64 0, .int .i64 0, .slice none 0 0]) := fun ev w hc => by go_simp
set_option maxRecDepth 100000 in
/-- The example. -/
theorem cFit {w : World} : Calls Try.prog 13 #[] w fun e w' => ∃ v, e = .returned v ∧ v = .bool true ∧ Below w.heap.size w w' := by
  have z0 : OnlyB (fun _ => False) w w := OnlyB.refl _ _
  go_enter Try.func13, Try.ntmps13
  refine wp_seq ?_
  refine flowC mixed (st0 (U := False) (N := 44) (e := []) (F := noF) rfl rfl (fok_no _ _) True.intro) (by kernel_rfl) (by kernel_rfl) (cc rfl (p_assign g0 (oc _)) cn) fun a1 w1 b1 s1 => ?_
  have z1 := z0.below b1
  refine wp_seq ?_
  refine wp_region_lit ?_
  refine with_st (s1.keep sn) fun s1 => ?_
  show wpList _ _ _ (_ :: _) _ _
  refine callO (R := fun v w' => ∃ gT gM, v = ptrV gT ∧ TabAt w' w1.heap.size gT gM T0 (fun _ => .slice none 0 0) ∧ Below w1.heap.size w1 w') [] s1 (by simp [Region.wanted]) (fun _ _ => by kernel_rfl) rfl (by decide) cNew vn fun v2 a2 w2 hR2 s2 => ?_
  obtain ⟨gT, gM, rfl, hT, b2⟩ := hR2
  have z2 := z1.below b2
  have hbase := z1.size
  refine chainK 1 (cc rfl (p_assign g0 (od rfl id)) cn) (by kernel_rfl) s2 fun a3 w3 b3 s3 => ?_
  have z3 := z2.below b3
  have hT := hT.below b3
  refine wpList_done ?_
  refine wp_seq ?_
  refine wp_seq ?_
  refine flowC mixed (s3.keep (sc 1 rfl sn)) (by kernel_rfl) (by kernel_rfl) (cc rfl (p_move g0 (od rfl id))
      (cc rfl (p_bin g0 (od rfl id) (oc _) b_eqT) cn)) fun a4 w4 b4 s4 => ?_
  have z4 := z3.below b4
  have hT := hT.below b4
  refine s4.cond 6 rfl (fun h => absurd h (by simp)) fun _ => ?_
  refine wp_skip ?_
  refine wp_seq ?_
  refine wp_region_lit ?_
  refine with_st (s4.keep (sc 1 rfl sn)) fun s4 => ?_
  refine chainK 2 (cc rfl (p_move g0 (od rfl id))
      (cc rfl (p_done (y := .val _) bd_48a (fun _ _ => rfl) g0) cn)) (by kernel_rfl) s4 fun a5 w5 b5 s5 => ?_
  have z5 := z4.below b5
  have hT := hT.below b5
  show wpList _ _ _ (_ :: _) _ _
  refine alloc_on (u := 48) (z := toC rootO (.slice none 0 0)) s5 (by simp [Region.wanted]) rfl (by decide) (bx_48 _ _ _ (s5.get 8 rfl)) (vv 1 rfl (vv 7 rfl vn)) fun gr a6 w6 hBgr hgr b6 s6 => ?_
  have hngr : (T0 : Tab).ob gr = none := no_at hT hgr
  have hgr := Nat.le_trans (Nat.le_of_lt (Nat.lt_of_le_of_lt hT.bT hT.tb.lt)) hgr
  have z6 := z5.below b6
  have hT := hT.below b6
  have hO := objAt0 (B := w1.heap.size) (o := rootO) rfl rfl hBgr rfl
  show wpList _ _ _ (_ :: _) _ _
  refine callO [.tmp 7, .tmp 9] s6 (by simp [Region.wanted]) (fun _ _ => by kernel_rfl) rfl (by decide) (show Calls Try.prog 15 #[a6.tmps.getD 7 undef, a6.tmps.getD 9 undef] w6 _ from by rw [show a6.tmps.getD 7 undef = ptrV gT from s6.get 7 rfl, show a6.tmps.getD 9 undef = ptrV gr from s6.get 9 rfl]; exact cAdd hT hO hgr hngr (fun _ _ h => by cases h) (fun _ _ h => by cases h)) (vv 1 rfl vn) fun v7 a7 w7 hR7 s7 => ?_
  obtain ⟨rfl, _, hyes⟩ := hR7
  obtain ⟨kv1, hT2, zA, _⟩ := hyes (fit_1 gr).1
  rw [(fit_1 gr).2] at hT2
  have s7 := s7.more 10 (y := .bool true) (by rw [show _ = _ from s7.get 10 rfl, (fit_1 gr).1]; rfl)
  have z7 := z6.trans zA (fun x hx hS => absurd (Nat.le_trans hbase (hT.lt hS).1) (Nat.not_le.2 hx))
  have hT := hT2
  refine chainK 1 (cc rfl (p_assign g0 (od rfl id)) cn) (by kernel_rfl) s7 fun a8 w8 b8 s8 => ?_
  have z8 := z7.below b8
  have hT := hT.below b8
  refine wpList_done ?_
  refine wp_seq ?_
  refine wp_region_lit ?_
  refine with_st (s8.keep (sc 1 rfl (sc 2 rfl sn))) fun s8 => ?_
  refine chainK 2 (cc rfl (p_move g0 (od rfl id))
      (cc rfl (p_done (y := .val _) bd_48c (fun _ _ => rfl) g0) cn)) (by kernel_rfl) s8 fun a9 w9 b9 s9 => ?_
  have z9 := z8.below b9
  have hT := hT.below b9
  show wpList _ _ _ (_ :: _) _ _
  refine alloc_on (u := 48) (z := toC kidO (.slice none 0 0)) s9 (by simp [Region.wanted]) rfl (by decide) (bx_48 _ _ _ (s9.get 12 rfl)) (vv 1 rfl (vv 2 rfl (vv 11 rfl vn))) fun g2 a10 w10 hBg2 hg2 b10 s10 => ?_
  have hng2 : (T1 gr : Tab).ob g2 = none := no_at hT hg2
  have hg2 := Nat.le_trans (Nat.le_of_lt (Nat.lt_of_le_of_lt hT.bT hT.tb.lt)) hg2
  have z10 := z9.below b10
  have hT := hT.below b10
  have hO := objAt0 (B := w1.heap.size) (o := kidO) rfl rfl hBg2 rfl
  show wpList _ _ _ (_ :: _) _ _
  refine callO [.tmp 11, .tmp 13] s10 (by simp [Region.wanted]) (fun _ _ => by kernel_rfl) rfl (by decide) (show Calls Try.prog 15 #[a10.tmps.getD 11 undef, a10.tmps.getD 13 undef] w10 _ from by rw [show a10.tmps.getD 11 undef = ptrV gT from s10.get 11 rfl, show a10.tmps.getD 13 undef = ptrV g2 from s10.get 13 rfl]; exact cAdd hT hO hg2 hng2 (fit_ok1 gr) (fit_len1 gr)) (vv 1 rfl (vv 2 rfl vn)) fun v11 a11 w11 hR11 s11 => ?_
  obtain ⟨rfl, _, hyes⟩ := hR11
  obtain ⟨kv2, hT2, zA, _⟩ := hyes (fit_2 (g1 := gr) (g2 := g2)).1
  rw [(fit_2 (g1 := gr) (g2 := g2)).2] at hT2
  have s11 := s11.more 14 (y := .bool true) (by rw [show _ = _ from s11.get 14 rfl, (fit_2 (g1 := gr) (g2 := g2)).1]; rfl)
  have z11 := z10.trans zA (fun x hx hS => absurd (Nat.le_trans hbase (hT.lt hS).1) (Nat.not_le.2 hx))
  have hT := hT2
  refine chainK 1 (cc rfl (p_assign g0 (od rfl id)) cn) (by kernel_rfl) s11 fun a12 w12 b12 s12 => ?_
  have z12 := z11.below b12
  have hT := hT.below b12
  refine wpList_done ?_
  refine wp_seq ?_
  have hne : g2 ≠ gr := fun e => by rw [e, show (T1 gr).ob gr = some rootO from upd_self (f := fun _ => none)] at hng2; cases hng2
  refine wp_region_lit ?_
  refine with_st (s12.keep (sc 1 rfl (sc 2 rfl (sc 3 rfl sn)))) fun s12 => ?_
  refine chainK 6 (cc rfl (p_move g0 (od rfl id))
      (cc rfl (p_move g0 (od rfl id))
      (cc rfl (p_move (g1 rfl rfl) (od rfl (fun _ => rfl)))
      (cc rfl (p_and g0 (od rfl id) (od rfl id))
      (cc rfl (p_move g0 (od rfl id))
      (cc rfl (p_move (g1 rfl rfl) (od rfl (fun _ => rfl))) cn)))))) (by kernel_rfl) s12 fun a13 w13 b13 s13 => ?_
  have z13 := z12.below b13
  have hT := hT.below b13
  show wpList _ _ _ (_ :: _) _ _
  have s13 := s13.more 19 (y := .bool true) (s13.get 19 rfl)
  refine callO [.tmp 20] s13 (Eq.trans (s13.wanted (g1 rfl rfl) rfl) rfl) (fun _ _ => by kernel_rfl) rfl (by decide) (show Calls Try.prog 18 #[a13.tmps.getD 20 undef] w13 _ from by rw [show a13.tmps.getD 20 undef = ptrV gT from s13.get 20 rfl]; exact cLen hT) (vv 1 rfl (vv 19 rfl vn)) fun v14 a14 w14 hR14 s14 => ?_
  obtain ⟨rfl, b14⟩ := hR14
  have s14 := s14.more 21 (y := .int .i64 2) (s14.get 21 rfl)
  have z14 := z13.below b14
  have hT := hT.below b14
  refine chainK 4 (cc rfl (p_bin (g1 rfl rfl) (od rfl (fun _ => rfl)) (oc _) b_eql_3)
      (cc rfl (p_and g0 (od rfl id) (od rfl id))
      (cc rfl (p_move g0 (od rfl id))
      (cc rfl (p_move (g1 rfl rfl) (od rfl (fun _ => rfl))) cn)))) (by kernel_rfl) s14 fun a15 w15 b15 s15 => ?_
  have z15 := z14.below b15
  have hT := hT.below b15
  show wpList _ _ _ (_ :: _) _ _
  have s15 := s15.more 24 (y := .bool true) (s15.get 24 rfl)
  refine callO [.tmp 25, .const (.int .u64 5), .const (.int .u64 1)] s15 (Eq.trans (s15.wanted (g1 rfl rfl) rfl) rfl) (fun _ _ => by kernel_rfl) rfl (by decide) (show Calls Try.prog 36 #[a15.tmps.getD 25 undef, .int .u64 5, .int .u64 1] w15 _ from by rw [show a15.tmps.getD 25 undef = ptrV gT from s15.get 25 rfl]; exact cIn fit_in1 hT) (vv 1 rfl (vv 24 rfl vn)) fun v16 a16 w16 hR16 s16 => ?_
  obtain ⟨rfl, b16⟩ := hR16
  have s16 := s16.more 26 (y := .bool true) (s16.get 26 rfl)
  have z16 := z15.below b16
  have hT := hT.below b16
  refine chainK 3 (cc rfl (p_and g0 (od rfl id) (od rfl id))
      (cc rfl (p_move g0 (od rfl id))
      (cc rfl (p_move (g1 rfl rfl) (od rfl (fun _ => rfl))) cn))) (by kernel_rfl) s16 fun a17 w17 b17 s17 => ?_
  have z17 := z16.below b17
  have hT := hT.below b17
  show wpList _ _ _ (_ :: _) _ _
  have s17 := s17.more 28 (y := .bool true) (s17.get 28 rfl)
  refine callO [.tmp 29, .const (.int .u64 1), .const (.int .u64 5)] s17 (Eq.trans (s17.wanted (g1 rfl rfl) rfl) rfl) (fun _ _ => by kernel_rfl) rfl (by decide) (show Calls Try.prog 36 #[a17.tmps.getD 29 undef, .int .u64 1, .int .u64 5] w17 _ from by rw [show a17.tmps.getD 29 undef = ptrV gT from s17.get 29 rfl]; exact cIn (fit_in2 hne) hT) (vv 1 rfl (vv 28 rfl vn)) fun v18 a18 w18 hR18 s18 => ?_
  obtain ⟨rfl, b18⟩ := hR18
  have s18 := s18.more 30 (y := .bool false) (s18.get 30 rfl)
  have z18 := z17.below b18
  have hT := hT.below b18
  refine chainK 4 (cc rfl (p_not (g1 rfl rfl) (od rfl (fun _ => rfl)))
      (cc rfl (p_and g0 (od rfl id) (od rfl id))
      (cc rfl (p_move g0 (od rfl id))
      (cc rfl (p_move (g1 rfl rfl) (od rfl (fun _ => rfl))) cn)))) (by kernel_rfl) s18 fun a19 w19 b19 s19 => ?_
  have z19 := z18.below b19
  have hT := hT.below b19
  show wpList _ _ _ (_ :: _) _ _
  have s19 := s19.more 33 (y := .bool true) (s19.get 33 rfl)
  refine callO [.tmp 34, .const (.int .u64 1)] s19 (Eq.trans (s19.wanted (g1 rfl rfl) rfl) rfl) (fun _ _ => by kernel_rfl) rfl (by decide) (show Calls Try.prog 16 #[a19.tmps.getD 34 undef, .int .u64 1] w19 _ from by rw [show a19.tmps.getD 34 undef = ptrV gT from s19.get 34 rfl]; exact cRem hT (fit_ok2 hne) (fit_len2 hne) fit_l1 (fit_ob1 hne) (fit_rem hne) (by simp)) (vv 1 rfl (vv 33 rfl vn)) fun v20 a20 w20 hR20 s20 => ?_
  obtain ⟨kv3, hrow, hT2, zA, _⟩ := hR20
  obtain ⟨A, c, rfl⟩ := own_slice hrow
  have z20 := z19.trans zA (fun x hx hS => absurd (Nat.le_trans hbase (hT.lt hS).1) (Nat.not_le.2 hx))
  have hT := hT2
  refine chainK 5 (cc rfl (p_lenV ln_49 (g1 rfl rfl) (od rfl (fun _ => rfl)))
      (cc rfl (p_bin (g1 rfl rfl) (od rfl id) (oc _) b_eql_3)
      (cc rfl (p_and g0 (od rfl id) (od rfl id))
      (cc rfl (p_move g0 (od rfl id))
      (cc rfl (p_move (g1 rfl rfl) (od rfl (fun _ => rfl))) cn))))) (by kernel_rfl) s20 fun a21 w21 b21 s21 => ?_
  have z21 := z20.below b21
  have hT := hT.below b21
  show wpList _ _ _ (_ :: _) _ _
  have s21 := s21.more 39 (y := .bool true) (s21.get 39 rfl)
  refine callO [.tmp 40] s21 (Eq.trans (s21.wanted (g1 rfl rfl) rfl) rfl) (fun _ _ => by kernel_rfl) rfl (by decide) (show Calls Try.prog 18 #[a21.tmps.getD 40 undef] w21 _ from by rw [show a21.tmps.getD 40 undef = ptrV gT from s21.get 40 rfl]; exact cLen hT) (vv 1 rfl (vv 39 rfl vn)) fun v22 a22 w22 hR22 s22 => ?_
  obtain ⟨rfl, b22⟩ := hR22
  have s22 := s22.more 41 (y := .int .i64 0) (s22.get 41 rfl)
  have z22 := z21.below b22
  have hT := hT.below b22
  refine chainK 3 (cc rfl (p_bin (g1 rfl rfl) (od rfl (fun _ => rfl)) (oc _) b_eql_3)
      (cc rfl (p_and g0 (od rfl id) (od rfl id))
      (cc rfl (p_assign g0 (od rfl id)) cn))) (by kernel_rfl) s22 fun a23 w23 b23 s23 => ?_
  have z23 := z22.below b23
  have hT := hT.below b23
  refine wpList_done ?_
  exact wp_ret (ret_o (fn := Try.f13) (R := fun v w' => v = .bool true ∧ Below w.heap.size w w') (v := .bool true) s23 0 rfl rfl ⟨rfl, z23.to_below (fun _ _ h => h) (Nat.le_refl _)⟩)

end Go.Proofs.Ytbeeiecbbmiojaa.Y
