/- Ysk: slices.Sort at uint64: pdqsort -/
import Derived.Test.YtbeeiecbbmiojaaYsj
namespace Go.Proofs.Ytbeeiecbbmiojaa.Y
open Go.RowKit Go.ChangeShapes Go.WideShapes Go.ChangeAt Go.ChangeMaps Go.MapKept

open Go.Sort (ltInt swp PermIn SortedIn insertionSort heapSort reverseRange partialInsertionSort partitionEqual partition)
def Goal (a b : Nat) (d D : Array Int) : Prop := PermIn a b d D ∧ SortedIn ltInt a b D
def Rest (A B : Nat) (d : Array Int) (a b : Nat) (d' : Array Int) : Prop := ∀ D, Goal a b d' D → Goal A B d D
theorem Rest.perm {A B a b : Nat} {d d1 d2 : Array Int} (h : Rest A B d a b d1) (hP : PermIn a b d1 d2) : Rest A B d a b d2 := fun D hD => h D ⟨Go.Sort.permIn_trans _ _ _ a b hP hD.1, hD.2⟩
section
variable {d : Nat} {t : TypeId} {p : String} {af : Array Edge} {g : Option (Nat × Bool)} {x x2 : Operand}
theorem b_eql_142 {a b : Int} : Run2 Try.prog ⟨some d, .binOp .eql 142 x x2 142, t, p, af, g⟩ x x2 (.int .i64 a) (.int .i64 b) (.bool (a == b)) := fun ev w h1 h2 => by go_simp
end
set_option maxRecDepth 100000 in
set_option maxHeartbeats 3200000 in
/-- pdqsortOrdered at uint64, one call. -/
theorem cPdqS {w : World} {g cap n : Nat} {d : Array Int} {A B : Nat} {lim : Int} (hn : n < 4611686018427387904) (ih : ∀ (w : World) (a b : Nat) (d : Array Int) (lim : Int), b - a < B - A → RowD w g cap n d → a ≤ b → b ≤ n → Go.Sort.Below ltInt a b d → Calls Try.prog 70 #[slD g n cap, .int .i64 (a : Int), .int .i64 (b : Int), .int .i64 lim] w fun e w' => e = .returned (.tuple #[]) ∧ ∃ D, Goal a b d D ∧ RowD w' g cap n D ∧ OnlyB (fun i => i = g) w w') (hD : RowD w g cap n d) (hAB : A ≤ B) (hBn : B ≤ n) (hBl : Go.Sort.Below ltInt A B d) : Calls Try.prog 70 #[slD g n cap, .int .i64 (A : Int), .int .i64 (B : Int), .int .i64 lim] w fun e w' => e = .returned (.tuple #[]) ∧ ∃ D, Goal A B d D ∧ RowD w' g cap n D ∧ OnlyB (fun i => i = g) w w' := by
  have z0 : OnlyB (fun i => i = g) w w := OnlyB.refl _ _
  go_enter Try.func70, Try.ntmps70
  refine wp_seq ?_
  refine flowC mixed (st0 (U := False) (N := 134) (e := [(0, true, .val (slD g n cap)), (1, true, .val (.int .i64 (A : Int))), (2, true, .val (.int .i64 (B : Int))), (3, true, .val (.int .i64 lim))]) (F := noF) rfl rfl (fok_no _ _) ⟨⟨rfl, rfl⟩, ⟨⟨rfl, rfl⟩, ⟨⟨rfl, rfl⟩, ⟨⟨rfl, rfl⟩, True.intro⟩⟩⟩⟩) (by kernel_rfl) (by kernel_rfl) (cc rfl (p_assign g0 (oc _)) cn) fun a1 w1 b1 s1 => ?_
  have z1 := z0.below b1
  have hD := hD.below b1
  refine wp_seq ?_
  refine flowC mixed (s1.keep (sc 0 rfl (sc 1 rfl (sc 2 rfl (sc 3 rfl (sc 8 rfl sn)))))) (by kernel_rfl) (by kernel_rfl) (cc rfl (p_assign g0 (oc _)) cn) fun a2 w2 b2 s2 => ?_
  have z2 := z1.below b2
  have hD := hD.below b2
  refine wp_block ?_
  refine wp_loopK (fun k ac wr => ∃ (a b : Nat) (lim : Int) (wb wp : Bool) (d' : Array Int), k = b - a ∧ a ≤ b ∧ b ≤ n ∧ b - a ≤ B - A ∧ Go.Sort.Below ltInt a b d' ∧ Rest A B d a b d' ∧ RowD wr g cap n d' ∧ OnlyB (fun i => i = g) w wr ∧ StE False 134 [(0, true, .val (slD g n cap)), (1, true, .val (.int .i64 (a : Int))), (2, true, .val (.int .i64 (b : Int))), (3, true, .int .i64 lim), (8, true, .bool wb), (9, true, .bool wp)] noF ac wr) (B - A) ⟨A, B, lim, true, true, d, rfl, hAB, hBn, by omega, hBl, fun _ h => h, hD, z2, s2.to _ ⟨rfl, rfl, rfl, rfl, rfl, rfl, True.intro⟩⟩ fun k a3 w3 hI => ?_
  obtain ⟨a, b, lim, wb, wp, d1, rfl, hab, hbn, hsm, hBl, hrest, hD, z3, s3⟩ := hI
  refine wp_block ?_
  refine wp_seq ?_
  refine flowC mixed (s3.keep (sc 0 rfl (sc 1 rfl (sc 2 rfl (sc 3 rfl (sc 8 rfl (sc 9 rfl sn))))))) (by kernel_rfl) (by kernel_rfl) (cc rfl (p_move g0 (od rfl id))
      (cc rfl (p_move g0 (od rfl id))
      (cc rfl (p_binC (m' := ((b - a : Nat) : Int)) (fun _ => by rw [IntKind.wrap_i64]; omega) g0 (od rfl id) (od rfl id) b_sub_3)
      (cc rfl (p_assign g0 (od rfl id)) cn)))) fun a4 w4 b4 s4 => ?_
  have z4 := z3.below b4
  have hD := hD.below b4
  refine wp_seq ?_
  refine wp_seq ?_
  refine flowC mixed (s4.keep (sc 0 rfl (sc 1 rfl (sc 2 rfl (sc 3 rfl (sc 8 rfl (sc 9 rfl (sc 10 rfl (sc 19 rfl (sc 20 rfl (sc 21 rfl sn))))))))))) (by kernel_rfl) (by kernel_rfl) (cc rfl (p_move g0 (od rfl id))
      (cc rfl (p_bin g0 (od rfl id) (oc _) b_leq_3) cn)) fun a5 w5 b5 s5 => ?_
  have z5 := z4.below b5
  have hD := hD.below b5
  refine s5.cond 23 rfl (fun h23 => ?_) (fun h23 => ?_)
  · -- true
    have hle : b - a ≤ 12 := by have h2 := of_decide_eq_true h23; (try dsimp only at h2); omega
    refine wp_seq ?_
    refine wp_region_lit ?_
    refine with_st (s5.keep (sc 0 rfl (sc 1 rfl (sc 2 rfl (sc 3 rfl (sc 8 rfl (sc 9 rfl (sc 10 rfl (sc 19 rfl (sc 20 rfl (sc 21 rfl (sc 22 rfl (sc 23 rfl sn))))))))))))) fun s5 => ?_
    refine chainK 3 (cc rfl (p_move g0 (od rfl id))
        (cc rfl (p_move g0 (od rfl id))
        (cc rfl (p_move g0 (od rfl id)) cn))) (by kernel_rfl) s5 fun a6 w6 b6 s6 => ?_
    have z6 := z5.below b6
    have hD := hD.below b6
    show wpList _ _ _ (_ :: _) _ _
    refine callN (R := fun w' => RowD w' g cap n (insertionSort ltInt d1 a b) ∧ OnlyB (fun i => i = g) w6 w') [.tmp 24, .tmp 25, .tmp 26] [slD g n cap, .int .i64 (a : Int), .int .i64 (b : Int)] s6 (by simp [Region.wanted]) (fun _ _ => by kernel_rfl) rfl (by decide) (ac (s6.get 24 rfl) (ac (s6.get 25 rfl) (ac (s6.get 26 rfl) an0))) (cIns hD hn hab hbn) (vv 0 rfl (vv 1 rfl (vv 2 rfl (vv 3 rfl (vv 8 rfl (vv 9 rfl (vv 10 rfl vn))))))) fun v7 a7 w7 hR7 s7 => ?_
    obtain ⟨hD0, hz7⟩ := hR7
    have z7 := z6.trans hz7 (fun _ _ h => h)
    have hgo : Goal A B d (insertionSort ltInt d1 a b) := hrest _ (Go.Sort.insertionSort_holds Go.Sort.swo_ltInt d1 a b hab (by rw [hD.size]; exact hbn))
    have hD := hD0
    refine wpList_done ?_
    exact wp_ret (ret_n (fn := Try.f70) (R := fun w' => ∃ D, Goal A B d D ∧ RowD w' g cap n D ∧ OnlyB (fun i => i = g) w w') s7 rfl ⟨_, hgo, hD, z7⟩)
  · -- false
    have hgt : 12 < b - a := by have h2 := of_decide_eq_false h23; (try dsimp only at h2); omega
    refine wp_skip ?_
    refine wp_seq ?_
    refine wp_seq ?_
    refine flowC mixed (s5.keep (sc 0 rfl (sc 1 rfl (sc 2 rfl (sc 3 rfl (sc 8 rfl (sc 9 rfl (sc 10 rfl (sc 19 rfl (sc 20 rfl (sc 21 rfl (sc 22 rfl (sc 23 rfl sn))))))))))))) (by kernel_rfl) (by kernel_rfl) (cc rfl (p_move g0 (od rfl id))
        (cc rfl (p_bin g0 (od rfl id) (oc _) b_eql_3) cn)) fun a8 w8 b8 s8 => ?_
    have z8 := z5.below b8
    have hD := hD.below b8
    refine s8.cond 29 rfl (fun h29 => ?_) (fun h29 => ?_)
    · -- true
      refine wp_seq ?_
      refine wp_region_lit ?_
      refine with_st (s8.keep (sc 0 rfl (sc 1 rfl (sc 2 rfl (sc 3 rfl (sc 8 rfl (sc 9 rfl (sc 10 rfl (sc 19 rfl (sc 20 rfl (sc 21 rfl (sc 22 rfl (sc 23 rfl (sc 28 rfl (sc 29 rfl sn))))))))))))))) fun s8 => ?_
      refine chainK 3 (cc rfl (p_move g0 (od rfl id))
          (cc rfl (p_move g0 (od rfl id))
          (cc rfl (p_move g0 (od rfl id)) cn))) (by kernel_rfl) s8 fun a9 w9 b9 s9 => ?_
      have z9 := z8.below b9
      have hD := hD.below b9
      show wpList _ _ _ (_ :: _) _ _
      refine callN (R := fun w' => RowD w' g cap n (heapSort ltInt d1 a b) ∧ OnlyB (fun i => i = g) w9 w') [.tmp 30, .tmp 31, .tmp 32] [slD g n cap, .int .i64 (a : Int), .int .i64 (b : Int)] s9 (by simp [Region.wanted]) (fun _ _ => by kernel_rfl) rfl (by decide) (ac (s9.get 30 rfl) (ac (s9.get 31 rfl) (ac (s9.get 32 rfl) an0))) (cHeap hD hn (by omega) hbn) (vv 0 rfl (vv 1 rfl (vv 2 rfl (vv 3 rfl (vv 8 rfl (vv 9 rfl (vv 10 rfl vn))))))) fun v10 a10 w10 hR10 s10 => ?_
      obtain ⟨hD0, hz10⟩ := hR10
      have z10 := z9.trans hz10 (fun _ _ h => h)
      have hgo : Goal A B d (heapSort ltInt d1 a b) := hrest _ (Go.Sort.heapSort_holds Go.Sort.swo_ltInt d1 a b hab (by rw [hD.size]; exact hbn))
      have hD := hD0
      refine wpList_done ?_
      exact wp_ret (ret_n (fn := Try.f70) (R := fun w' => ∃ D, Goal A B d D ∧ RowD w' g cap n D ∧ OnlyB (fun i => i = g) w w') s10 rfl ⟨_, hgo, hD, z10⟩)
    · -- false
      refine wp_skip ?_
      refine wp_seq ?_
      refine wp_seq ?_
      refine flowC mixed (s8.keep (sc 0 rfl (sc 1 rfl (sc 2 rfl (sc 3 rfl (sc 8 rfl (sc 9 rfl (sc 10 rfl (sc 19 rfl (sc 20 rfl (sc 21 rfl (sc 22 rfl (sc 23 rfl (sc 28 rfl (sc 29 rfl sn))))))))))))))) (by kernel_rfl) (by kernel_rfl) (cc rfl (p_move g0 (od rfl id))
          (cc rfl (p_not g0 (od rfl id)) cn)) fun a11 w11 b11 s11 => ?_
      have z11 := z8.below b11
      have hD := hD.below b11
      refine s11.cond 35 rfl (fun h35 => ?_) (fun h35 => ?_)
      · -- true
        refine wp_seq ?_
        refine wp_region_lit ?_
        refine with_st (s11.keep (sc 0 rfl (sc 1 rfl (sc 2 rfl (sc 3 rfl (sc 8 rfl (sc 9 rfl (sc 10 rfl (sc 19 rfl (sc 20 rfl (sc 21 rfl (sc 22 rfl (sc 23 rfl (sc 28 rfl (sc 29 rfl (sc 34 rfl (sc 35 rfl sn))))))))))))))))) fun s11 => ?_
        refine chainK 3 (cc rfl (p_move g0 (od rfl id))
            (cc rfl (p_move g0 (od rfl id))
            (cc rfl (p_move g0 (od rfl id)) cn))) (by kernel_rfl) s11 fun a12 w12 b12 s12 => ?_
        have z12 := z11.below b12
        have hD := hD.below b12
        show wpList _ _ _ (_ :: _) _ _
        refine callN (R := fun w' => ∃ d' : Array Int, PermIn a b d1 d' ∧ RowD w' g cap n d' ∧ OnlyB (fun i => i = g) w12 w') [.tmp 36, .tmp 37, .tmp 38] [slD g n cap, .int .i64 (a : Int), .int .i64 (b : Int)] s12 (by simp [Region.wanted]) (fun _ _ => by kernel_rfl) rfl (by decide) (ac (s12.get 36 rfl) (ac (s12.get 37 rfl) (ac (s12.get 38 rfl) an0))) (cBrk hD hn (by omega) hbn) (vv 0 rfl (vv 1 rfl (vv 2 rfl (vv 3 rfl (vv 8 rfl (vv 9 rfl (vv 10 rfl vn))))))) fun v13 a13 w13 hR13 s13 => ?_
        obtain ⟨d2, hP, hD0, hz13⟩ := hR13
        have z13 := z12.trans hz13 (fun _ _ h => h)
        have hBl := Go.Sort.Below.perm hBl (by rw [hD.size]; exact hbn) hP
        have hrest := hrest.perm hP
        have hD := hD0
        refine wpList_done ?_
        refine flowT (s13.keep (sc 0 rfl (sc 1 rfl (sc 2 rfl (sc 3 rfl (sc 8 rfl (sc 9 rfl (sc 10 rfl sn)))))))) (by kernel_rfl) (cc rfl (p_move g0 (od rfl id))
            (cc rfl (p_bin g0 (od rfl id) (oc _) b_sub_3)
            (cc rfl (p_assign g0 (od rfl id)) cn))) fun a14 w14 b14 s14 => ?_
        have z14 := z13.below b14
        have hD := hD.below b14
        obtain ⟨lim2, hlim2⟩ : ∃ l, l = IntKind.i64.wrap (lim - 1) := ⟨_, rfl⟩
        have s14 := s14.more 3 (y := .int .i64 lim2) ((s14.get 3 rfl).trans (by rw [hlim2]))
        refine wp_seq ?_
        refine wp_region_lit ?_
        refine with_st (s14.keep (sc 0 rfl (sc 1 rfl (sc 2 rfl (sc 3 rfl (sc 8 rfl (sc 9 rfl (sc 10 rfl (sc 40 rfl (sc 41 rfl sn)))))))))) fun s14 => ?_
        refine chainK 3 (cc rfl (p_move g0 (od rfl id))
            (cc rfl (p_move g0 (od rfl id))
            (cc rfl (p_move g0 (od rfl id)) cn))) (by kernel_rfl) s14 fun a15 w15 b15 s15 => ?_
        have z15 := z14.below b15
        have hD := hD.below b15
        show wpList _ _ _ (_ :: _) _ _
        refine callR (R := fun v w' => ∃ (p : Nat) (h : Int), v = .tuple #[.int .i64 (p : Int), .int .i64 h] ∧ a ≤ p ∧ p < b ∧ Below w15.heap.size w15 w') [.tmp 43, .tmp 44, .tmp 45] [slD g n cap, .int .i64 (a : Int), .int .i64 (b : Int)] s15 (by simp [Region.wanted]) (fun _ _ => by kernel_rfl) rfl (by decide) (ac (s15.get 43 rfl) (ac (s15.get 44 rfl) (ac (s15.get 45 rfl) an0))) (cPiv hD hn (by omega) hbn) (vv 0 rfl (vv 1 rfl (vv 2 rfl (vv 3 rfl (vv 8 rfl (vv 9 rfl (vv 10 rfl vn))))))) fun v16 a16 w16 hR16 s16 => ?_
        obtain ⟨p, h0, e16, hp1, hp2, hb16⟩ := hR16
        have hD := hD.below hb16
        have z16 := z15.below hb16
        have s16 := s16.more 46 (y := .two (.int .i64 (p : Int)) (.int .i64 h0)) (at_two ((s16.get 46 rfl).trans e16))
        refine chainK 5 (cc rfl (p_move g0 (od rfl id))
            (cc rfl (p_ext0 g0 (od rfl id))
            (cc rfl (p_ext1 g0 (od rfl id))
            (cc rfl (p_assign g0 (od rfl id))
            (cc rfl (p_assign g0 (od rfl id)) cn))))) (by kernel_rfl) s16 fun a17 w17 b17 s17 => ?_
        have z17 := z16.below b17
        have hD := hD.below b17
        refine wpList_done ?_
        refine wp_seq ?_
        refine wp_seq ?_
        refine flowC mixed (s17.keep (sc 0 rfl (sc 1 rfl (sc 2 rfl (sc 3 rfl (sc 8 rfl (sc 9 rfl (sc 10 rfl (sc 11 rfl (sc 12 rfl (sc 42 rfl (sc 46 rfl (sc 47 rfl (sc 48 rfl sn)))))))))))))) (by kernel_rfl) (by kernel_rfl) (cc rfl (p_move g0 (od rfl id))
            (cc rfl (p_bin g0 (od rfl id) (oc _) b_eql_142) cn)) fun a18 w18 b18 s18 => ?_
        have z18 := z17.below b18
        have hD := hD.below b18
        refine s18.cond 50 rfl (fun h50 => ?_) (fun h50 => ?_)
        · -- true
          refine wp_seq ?_
          refine wp_region_lit ?_
          refine with_st (s18.keep (sc 0 rfl (sc 1 rfl (sc 2 rfl (sc 3 rfl (sc 8 rfl (sc 9 rfl (sc 10 rfl (sc 11 rfl (sc 12 rfl (sc 42 rfl (sc 46 rfl (sc 47 rfl (sc 48 rfl (sc 49 rfl (sc 50 rfl sn)))))))))))))))) fun s18 => ?_
          refine chainK 3 (cc rfl (p_move g0 (od rfl id))
              (cc rfl (p_move g0 (od rfl id))
              (cc rfl (p_move g0 (od rfl id)) cn))) (by kernel_rfl) s18 fun a19 w19 b19 s19 => ?_
          have z19 := z18.below b19
          have hD := hD.below b19
          show wpList _ _ _ (_ :: _) _ _
          refine callN (R := fun w' => RowD w' g cap n (reverseRange d2 a b) ∧ OnlyB (fun i => i = g) w19 w') [.tmp 51, .tmp 52, .tmp 53] [slD g n cap, .int .i64 (a : Int), .int .i64 (b : Int)] s19 (by simp [Region.wanted]) (fun _ _ => by kernel_rfl) rfl (by decide) (ac (s19.get 51 rfl) (ac (s19.get 52 rfl) (ac (s19.get 53 rfl) an0))) (cRev hD hn (by omega) hbn) (vv 0 rfl (vv 1 rfl (vv 2 rfl (vv 3 rfl (vv 8 rfl (vv 9 rfl (vv 10 rfl (vv 11 rfl (vv 12 rfl vn))))))))) fun v20 a20 w20 hR20 s20 => ?_
          obtain ⟨hD0, hz20⟩ := hR20
          have z20 := z19.trans hz20 (fun _ _ h => h)
          obtain ⟨d3, hd3⟩ : ∃ d3, d3 = reverseRange d2 a b := ⟨_, rfl⟩
          rw [← hd3] at hD0
          have hP3 : PermIn a b d2 d3 := by rw [hd3]; exact Go.Sort.reverseRange_holds d2 a b hab (by rw [hD.size]; exact hbn)
          have hBl := Go.Sort.Below.perm hBl (by rw [hD.size]; exact hbn) hP3
          have hrest := hrest.perm hP3
          have hD := hD0
          refine wpList_done ?_
          refine wp_seq ?_
          refine flowT (s20.keep (sc 0 rfl (sc 1 rfl (sc 2 rfl (sc 3 rfl (sc 8 rfl (sc 9 rfl (sc 10 rfl (sc 11 rfl (sc 12 rfl sn)))))))))) (by kernel_rfl) (cc rfl (p_move g0 (od rfl id))
              (cc rfl (p_binC (m' := ((b - 1 : Nat) : Int)) (fun _ => by rw [IntKind.wrap_i64]; omega) g0 (od rfl id) (oc _) b_sub_3)
              (cc rfl (p_move g0 (od rfl id))
              (cc rfl (p_move g0 (od rfl id))
              (cc rfl (p_binC (m' := ((p - a : Nat) : Int)) (fun _ => by rw [IntKind.wrap_i64]; omega) g0 (od rfl id) (od rfl id) b_sub_3)
              (cc rfl (p_binC (m' := ((b - 1 - (p - a) : Nat) : Int)) (fun _ => by rw [IntKind.wrap_i64]; omega) g0 (od rfl id) (od rfl id) b_sub_3)
              (cc rfl (p_assign g0 (od rfl id)) cn))))))) fun a21 w21 b21 s21 => ?_
          have z21 := z20.below b21
          have hD := hD.below b21
          refine flowT (s21.keep (sc 0 rfl (sc 1 rfl (sc 2 rfl (sc 3 rfl (sc 8 rfl (sc 9 rfl (sc 10 rfl (sc 11 rfl (sc 12 rfl (sc 55 rfl (sc 56 rfl (sc 57 rfl (sc 58 rfl (sc 59 rfl (sc 60 rfl sn)))))))))))))))) (by kernel_rfl) (cc rfl (p_assign g0 (oc _)) cn) fun a22 w22 b22 s22 => ?_
          have z22 := z21.below b22
          have hD := hD.below b22
          obtain ⟨pv, hpv⟩ : ∃ pv, pv = b - 1 - (p - a) := ⟨_, rfl⟩
          obtain ⟨h1, hh1⟩ : ∃ h1 : Int, h1 = 1 := ⟨_, rfl⟩
          have s22 := s22.more 11 (y := .int .i64 (pv : Int)) ((s22.get 11 rfl).trans (by rw [hpv]))
          have s22 := s22.more 12 (y := .int .i64 h1) ((s22.get 12 rfl).trans (by rw [hh1]))
          replace hp1 : a ≤ pv := by omega
          replace hp2 : pv < b := by omega
          refine wp_seq ?_
          refine wp_seq ?_
          refine flowC mixed (s22.keep (sc 0 rfl (sc 1 rfl (sc 2 rfl (sc 3 rfl (sc 8 rfl (sc 9 rfl (sc 10 rfl (sc 11 rfl (sc 12 rfl (sc 55 rfl (sc 56 rfl (sc 57 rfl (sc 58 rfl (sc 59 rfl (sc 60 rfl sn)))))))))))))))) (by kernel_rfl) (by kernel_rfl) (cc rfl (p_move g0 (od rfl id))
              (cc rfl (p_move g0 (od rfl id))
              (cc rfl (p_move (g1 rfl rfl) (od rfl (fun _ => rfl)))
              (cc rfl (p_and g0 (od rfl id) (od rfl id))
              (cc rfl (p_move g0 (od rfl id))
              (cc rfl (p_move (g1 rfl rfl) (od rfl (fun _ => rfl)))
              (cc rfl (p_bin (g1 rfl rfl) (od rfl id) (oc _) b_eql_142)
              (cc rfl (p_and g0 (od rfl id) (od rfl id)) cn)))))))) fun a23 w23 b23 s23 => ?_
          have z23 := z22.below b23
          have hD := hD.below b23
          refine s23.cond 68 rfl (fun h68 => ?_) (fun h68 => ?_)
          · -- true
            refine wp_seq ?_
            refine wp_region_lit ?_
            refine with_st (s23.keep (sc 0 rfl (sc 1 rfl (sc 2 rfl (sc 3 rfl (sc 8 rfl (sc 9 rfl (sc 10 rfl (sc 11 rfl (sc 12 rfl (sc 55 rfl (sc 56 rfl (sc 57 rfl (sc 58 rfl (sc 59 rfl (sc 60 rfl (sc 61 rfl (sc 62 rfl (sc 63 rfl (sc 64 rfl (sc 65 rfl (sc 66 rfl (sc 67 rfl (sc 68 rfl sn)))))))))))))))))))))))) fun s23 => ?_
            refine chainK 3 (cc rfl (p_move g0 (od rfl id))
                (cc rfl (p_move g0 (od rfl id))
                (cc rfl (p_move g0 (od rfl id)) cn))) (by kernel_rfl) s23 fun a24 w24 b24 s24 => ?_
            have z24 := z23.below b24
            have hD := hD.below b24
            show wpList _ _ _ (_ :: _) _ _
            refine callR (R := fun v w' => ∃ t : Array Int × Bool, partialInsertionSort ltInt d3 a b = t ∧ v = .bool t.2 ∧ RowD w' g cap n t.1 ∧ OnlyB (fun i => i = g) w24 w') [.tmp 69, .tmp 70, .tmp 71] [slD g n cap, .int .i64 (a : Int), .int .i64 (b : Int)] s24 (by simp [Region.wanted]) (fun _ _ => by kernel_rfl) rfl (by decide) (ac (s24.get 69 rfl) (ac (s24.get 70 rfl) (ac (s24.get 71 rfl) an0))) (cPin hD hn (by omega) hbn) (vv 0 rfl (vv 1 rfl (vv 2 rfl (vv 3 rfl (vv 8 rfl (vv 9 rfl (vv 10 rfl (vv 11 rfl (vv 12 rfl vn))))))))) fun v25 a25 w25 hR25 s25 => ?_
            obtain ⟨⟨d4, b4⟩, ht4, e25, hD0, hz25⟩ := hR25
            have z25 := z24.trans hz25 (fun _ _ h => h)
            have s25 := s25.more 72 (y := .bool b4) ((s25.get 72 rfl).trans e25)
            have hpi := Go.Sort.partialInsertionSort_holds Go.Sort.swo_ltInt d3 a b (by omega) (by rw [hD.size]; exact hbn) hBl
            rw [ht4] at hpi
            replace hpi : PermIn a b d3 d4 ∧ (b4 = true → SortedIn ltInt a b d4) := hpi
            replace hD0 : RowD _ g cap n d4 := hD0
            refine wpList_done ?_
            refine s25.cond 72 rfl (fun h72 => ?_) (fun h72 => ?_)
            · -- true
              have hgo : Goal A B d d4 := hrest _ ⟨hpi.1, hpi.2 h72⟩
              have hD := hD0
              exact wp_ret (ret_n (fn := Try.f70) (R := fun w' => ∃ D, Goal A B d D ∧ RowD w' g cap n D ∧ OnlyB (fun i => i = g) w w') s25 rfl ⟨_, hgo, hD, z25⟩)
            · -- false
              have hBl := Go.Sort.Below.perm hBl (by rw [hD.size]; exact hbn) hpi.1
              have hrest := hrest.perm hpi.1
              have hD := hD0
              refine wp_skip ?_
              refine wp_seq ?_
              refine wp_seq ?_
              have s25 := s25.more 0 (y := .rowD g n cap d4) (at_rowD hD (s25.get 0 rfl))
              refine flowC mixed (s25.keep (sc 0 rfl (sc 1 rfl (sc 2 rfl (sc 3 rfl (sc 8 rfl (sc 9 rfl (sc 10 rfl (sc 11 rfl (sc 12 rfl (sc 72 rfl sn))))))))))) (by kernel_rfl) (by kernel_rfl) (cc rfl (p_move g0 (od rfl id))
                  (cc rfl (p_bin g0 (od rfl id) (oc _) b_gtr_3)
                  (cc rfl (p_move g0 (od rfl id))
                  (cc rfl (p_move (g1 rfl rfl) (od rfl (fun _ => rfl)))
                  (cc rfl (p_move (g1 rfl rfl) (od rfl (fun _ => rfl)))
                  (cc rfl (p_binC (m' := ((a - 1 : Nat) : Int)) (fun h => by simp at h; rw [IntKind.wrap_i64]; omega) (g1 rfl rfl) (od rfl id) (oc _) b_sub_3)
                  (cc rfl (p_idxD (i := a - 1) (fun h => by simp at h; omega) (g1 rfl rfl) (od rfl id) (od rfl id))
                  (cc rfl (p_ldD (g1 rfl rfl) (od rfl id))
                  (cc rfl (p_move (g1 rfl rfl) (od rfl (fun _ => rfl)))
                  (cc rfl (p_move (g1 rfl rfl) (od rfl (fun _ => rfl)))
                  (cc rfl (p_idxD (i := pv) (fun h => by simp at h; omega) (g1 rfl rfl) (od rfl id) (od rfl id))
                  (cc rfl (p_ldD (g1 rfl rfl) (od rfl id))
                  (cc rfl (p_call 60 (g1 rfl rfl) (ox (od rfl id) (ox (od rfl id) ox0)) (fun _ _ => by kernel_rfl) f60)
                  (cc rfl (p_not (g1 rfl rfl) (od rfl id))
                  (cc rfl (p_and g0 (od rfl id) (od rfl id)) cn))))))))))))))) fun a26 w26 b26 s26 => ?_
              have z26 := z25.below b26
              have hD := hD.below b26
              have s26 := s26.more 0 (y := .val (slD g n cap)) (s26.get 0 rfl).1
              refine s26.cond 87 rfl (fun h87 => ?_) (fun h87 => ?_)
              · -- true
                have h2 := h87
                rw [Bool.and_eq_true, Bool.not_eq_true'] at h2
                obtain ⟨h3, hnl⟩ := h2
                have ha0 : 0 < a := by have h4 := of_decide_eq_true h3; (try dsimp only at h4); omega
                refine wp_seq ?_
                refine wp_region_lit ?_
                refine with_st (s26.keep (sc 0 rfl (sc 1 rfl (sc 2 rfl (sc 3 rfl (sc 8 rfl (sc 9 rfl (sc 10 rfl (sc 11 rfl (sc 12 rfl (sc 72 rfl (sc 73 rfl (sc 74 rfl (sc 75 rfl (sc 76 rfl (sc 77 rfl (sc 78 rfl (sc 79 rfl (sc 80 rfl (sc 81 rfl (sc 82 rfl (sc 83 rfl (sc 84 rfl (sc 85 rfl (sc 86 rfl (sc 87 rfl sn)))))))))))))))))))))))))) fun s26 => ?_
                refine chainK 4 (cc rfl (p_move g0 (od rfl id))
                    (cc rfl (p_move g0 (od rfl id))
                    (cc rfl (p_move g0 (od rfl id))
                    (cc rfl (p_move g0 (od rfl id)) cn)))) (by kernel_rfl) s26 fun a27 w27 b27 s27 => ?_
                have z27 := z26.below b27
                have hD := hD.below b27
                show wpList _ _ _ (_ :: _) _ _
                refine callR (R := fun v w' => ∃ t : Nat × Array Int, partitionEqual ltInt d4 a b pv = t ∧ v = .int .i64 (t.1 : Int) ∧ RowD w' g cap n t.2 ∧ OnlyB (fun i => i = g) w27 w') [.tmp 88, .tmp 89, .tmp 90, .tmp 91] [slD g n cap, .int .i64 (a : Int), .int .i64 (b : Int), .int .i64 (pv : Int)] s27 (by simp [Region.wanted]) (fun _ _ => by kernel_rfl) rfl (by decide) (ac (s27.get 88 rfl) (ac (s27.get 89 rfl) (ac (s27.get 90 rfl) (ac (s27.get 91 rfl) an0)))) (cPeq hD hn hp1 hp2 hbn) (vv 0 rfl (vv 1 rfl (vv 2 rfl (vv 3 rfl (vv 8 rfl (vv 9 rfl (vv 10 rfl (vv 11 rfl (vv 12 rfl vn))))))))) fun v28 a28 w28 hR28 s28 => ?_
                obtain ⟨⟨mid, d5⟩, ht5, e28, hD0, hz28⟩ := hR28
                have z28 := z27.trans hz28 (fun _ _ h => h)
                have s28 := s28.more 92 (y := .int .i64 (mid : Int)) ((s28.get 92 rfl).trans e28)
                obtain ⟨hm1, hm2, _, hBl5, hr5⟩ := Go.Sort.round_eq Go.Sort.swo_ltInt (Go.Sort.partitionEqual_holds _) ha0 hp1 hp2 (by rw [hD.size]; exact hbn) hBl hnl ht5
                replace hD0 : RowD _ g cap n d5 := hD0
                have hD := hD0
                refine chainK 1 (cc rfl (p_assign g0 (od rfl id)) cn) (by kernel_rfl) s28 fun a29 w29 b29 s29 => ?_
                have z29 := z28.below b29
                have hD := hD.below b29
                refine wpList_done ?_
                refine wp_seq ?_
                refine flowT (s29.keep (sc 0 rfl (sc 1 rfl (sc 2 rfl (sc 3 rfl (sc 8 rfl (sc 9 rfl (sc 10 rfl (sc 11 rfl (sc 12 rfl (sc 13 rfl (sc 92 rfl sn)))))))))))) (by kernel_rfl) (cc rfl (p_move g0 (od rfl id))
                    (cc rfl (p_assign g0 (od rfl id)) cn)) fun a30 w30 b30 s30 => ?_
                have z30 := z29.below b30
                have hD := hD.below b30
                refine wp_exit ?_
                exact ⟨b - mid, by omega, mid, b, lim2, wb, wp, d5, rfl, hm2, hbn, by omega, hBl5, fun D h => hrest D (hr5 D h.1 h.2), hD, z30, s30.to _ ⟨rfl, rfl, rfl, rfl, rfl, rfl, True.intro⟩⟩
              · -- false
                refine wp_skip ?_
                refine wp_seq ?_
                refine wp_region_lit ?_
                refine with_st (s26.keep (sc 0 rfl (sc 1 rfl (sc 2 rfl (sc 3 rfl (sc 8 rfl (sc 9 rfl (sc 10 rfl (sc 11 rfl (sc 12 rfl (sc 72 rfl (sc 73 rfl (sc 74 rfl (sc 75 rfl (sc 76 rfl (sc 77 rfl (sc 78 rfl (sc 79 rfl (sc 80 rfl (sc 81 rfl (sc 82 rfl (sc 83 rfl (sc 84 rfl (sc 85 rfl (sc 86 rfl (sc 87 rfl sn)))))))))))))))))))))))))) fun s26 => ?_
                refine chainK 4 (cc rfl (p_move g0 (od rfl id))
                    (cc rfl (p_move g0 (od rfl id))
                    (cc rfl (p_move g0 (od rfl id))
                    (cc rfl (p_move g0 (od rfl id)) cn)))) (by kernel_rfl) s26 fun a31 w31 b31 s31 => ?_
                have z31 := z26.below b31
                have hD := hD.below b31
                show wpList _ _ _ (_ :: _) _ _
                refine callR (R := fun v w' => ∃ t : Nat × Bool × Array Int, partition ltInt d4 a b pv = t ∧ v = .tuple #[.int .i64 (t.1 : Int), .bool t.2.1] ∧ RowD w' g cap n t.2.2 ∧ OnlyB (fun i => i = g) w31 w') [.tmp 95, .tmp 96, .tmp 97, .tmp 98] [slD g n cap, .int .i64 (a : Int), .int .i64 (b : Int), .int .i64 (pv : Int)] s31 (by simp [Region.wanted]) (fun _ _ => by kernel_rfl) rfl (by decide) (ac (s31.get 95 rfl) (ac (s31.get 96 rfl) (ac (s31.get 97 rfl) (ac (s31.get 98 rfl) an0)))) (cPar hD hn hp1 hp2 hbn) (vv 0 rfl (vv 1 rfl (vv 2 rfl (vv 3 rfl (vv 8 rfl (vv 9 rfl (vv 10 rfl (vv 11 rfl (vv 12 rfl vn))))))))) fun v32 a32 w32 hR32 s32 => ?_
                obtain ⟨⟨mid, ap, d5⟩, ht5, e32, hD0, hz32⟩ := hR32
                have z32 := z31.trans hz32 (fun _ _ h => h)
                have s32 := s32.more 99 (y := .two (.int .i64 (mid : Int)) (.bool ap)) (at_two ((s32.get 99 rfl).trans e32))
                obtain ⟨hm1, hm2, _, hBll, hBlr, hrl, hrr⟩ := Go.Sort.round_part Go.Sort.swo_ltInt (Go.Sort.partition_holds _) hp1 hp2 (by rw [hD.size]; exact hbn) hBl ht5
                replace hD0 : RowD _ g cap n d5 := hD0
                have hD := hD0
                refine chainK 5 (cc rfl (p_move g0 (od rfl id))
                    (cc rfl (p_ext0 g0 (od rfl id))
                    (cc rfl (p_ext1 g0 (od rfl id))
                    (cc rfl (p_assign g0 (od rfl id))
                    (cc rfl (p_assign g0 (od rfl id)) cn))))) (by kernel_rfl) s32 fun a33 w33 b33 s33 => ?_
                have z33 := z32.below b33
                have hD := hD.below b33
                refine wpList_done ?_
                refine wp_seq ?_
                refine flowT (s33.keep (sc 0 rfl (sc 1 rfl (sc 2 rfl (sc 3 rfl (sc 8 rfl (sc 9 rfl (sc 10 rfl (sc 11 rfl (sc 12 rfl (sc 14 rfl (sc 15 rfl (sc 94 rfl (sc 99 rfl (sc 100 rfl (sc 101 rfl sn)))))))))))))))) (by kernel_rfl) (cc rfl (p_move g0 (od rfl id))
                    (cc rfl (p_assign g0 (od rfl id)) cn)) fun a34 w34 b34 s34 => ?_
                have z34 := z33.below b34
                have hD := hD.below b34
                refine wp_seq ?_
                refine flowC mixed (s34.keep (sc 0 rfl (sc 1 rfl (sc 2 rfl (sc 3 rfl (sc 8 rfl (sc 9 rfl (sc 10 rfl (sc 11 rfl (sc 12 rfl (sc 14 rfl (sc 15 rfl (sc 94 rfl (sc 99 rfl (sc 100 rfl (sc 101 rfl (sc 102 rfl sn))))))))))))))))) (by kernel_rfl) (by kernel_rfl) (cc rfl (p_move g0 (od rfl id))
                    (cc rfl (p_move g0 (od rfl id))
                    (cc rfl (p_binC (m' := ((mid - a : Nat) : Int)) (fun _ => by rw [IntKind.wrap_i64]; omega) g0 (od rfl id) (od rfl id) b_sub_3)
                    (cc rfl (p_move g0 (od rfl id))
                    (cc rfl (p_move g0 (od rfl id))
                    (cc rfl (p_binC (m' := ((b - mid : Nat) : Int)) (fun _ => by rw [IntKind.wrap_i64]; omega) g0 (od rfl id) (od rfl id) b_sub_3)
                    (cc rfl (p_assign g0 (od rfl id))
                    (cc rfl (p_assign g0 (od rfl id)) cn)))))))) fun a35 w35 b35 s35 => ?_
                have z35 := z34.below b35
                have hD := hD.below b35
                refine wp_seq ?_
                refine flowC mixed (s35.keep (sc 0 rfl (sc 1 rfl (sc 2 rfl (sc 3 rfl (sc 8 rfl (sc 9 rfl (sc 10 rfl (sc 11 rfl (sc 12 rfl (sc 14 rfl (sc 15 rfl (sc 16 rfl (sc 17 rfl (sc 94 rfl (sc 99 rfl (sc 100 rfl (sc 101 rfl (sc 102 rfl (sc 103 rfl (sc 104 rfl (sc 105 rfl (sc 106 rfl (sc 107 rfl (sc 108 rfl sn))))))))))))))))))))))))) (by kernel_rfl) (by kernel_rfl) (cc rfl (p_move g0 (od rfl id))
                    (cc rfl (p_binC (m' := (((b - a) / 8 : Nat) : Int)) (fun _ => rfl) g0 (od rfl id) (oc _) (b_quo_3 (a := (b - a)) (b := 8) (by omega) (by omega)))
                    (cc rfl (p_assign g0 (od rfl id)) cn))) fun a36 w36 b36 s36 => ?_
                have z36 := z35.below b36
                have hD := hD.below b36
                refine wp_seq ?_
                refine flowC mixed (s36.keep (sc 0 rfl (sc 1 rfl (sc 2 rfl (sc 3 rfl (sc 8 rfl (sc 9 rfl (sc 10 rfl (sc 11 rfl (sc 12 rfl (sc 14 rfl (sc 15 rfl (sc 16 rfl (sc 17 rfl (sc 18 rfl (sc 94 rfl (sc 99 rfl (sc 100 rfl (sc 101 rfl (sc 102 rfl (sc 103 rfl (sc 104 rfl (sc 105 rfl (sc 106 rfl (sc 107 rfl (sc 108 rfl (sc 109 rfl (sc 110 rfl sn)))))))))))))))))))))))))))) (by kernel_rfl) (by kernel_rfl) (cc rfl (p_move g0 (od rfl id))
                    (cc rfl (p_move g0 (od rfl id))
                    (cc rfl (p_bin g0 (od rfl id) (od rfl id) b_lss_3) cn))) fun a37 w37 b37 s37 => ?_
                have z37 := z36.below b37
                have hD := hD.below b37
                refine s37.cond 113 rfl (fun h113 => ?_) (fun h113 => ?_)
                · -- true
                  refine wp_seq ?_
                  refine flowT (s37.keep (sc 0 rfl (sc 1 rfl (sc 2 rfl (sc 3 rfl (sc 8 rfl (sc 9 rfl (sc 10 rfl (sc 11 rfl (sc 12 rfl (sc 14 rfl (sc 15 rfl (sc 16 rfl (sc 17 rfl (sc 18 rfl (sc 94 rfl (sc 99 rfl (sc 100 rfl (sc 101 rfl (sc 102 rfl (sc 103 rfl (sc 104 rfl (sc 105 rfl (sc 106 rfl (sc 107 rfl (sc 108 rfl (sc 109 rfl (sc 110 rfl (sc 111 rfl (sc 112 rfl (sc 113 rfl sn))))))))))))))))))))))))))))))) (by kernel_rfl) (cc rfl (p_move g0 (od rfl id))
                      (cc rfl (p_move g0 (od rfl id))
                      (cc rfl (p_bin g0 (od rfl id) (od rfl id) b_geq_3)
                      (cc rfl (p_assign g0 (od rfl id)) cn)))) fun a38 w38 b38 s38 => ?_
                  have z38 := z37.below b38
                  have hD := hD.below b38
                  refine wp_seq ?_
                  refine wp_region_lit ?_
                  refine with_st (s38.keep (sc 0 rfl (sc 1 rfl (sc 2 rfl (sc 3 rfl (sc 8 rfl (sc 9 rfl (sc 10 rfl (sc 11 rfl (sc 12 rfl (sc 14 rfl (sc 15 rfl (sc 16 rfl (sc 17 rfl (sc 18 rfl (sc 94 rfl (sc 99 rfl (sc 100 rfl (sc 101 rfl (sc 102 rfl (sc 103 rfl (sc 104 rfl (sc 105 rfl (sc 106 rfl (sc 107 rfl (sc 108 rfl (sc 109 rfl (sc 110 rfl (sc 111 rfl (sc 112 rfl (sc 113 rfl (sc 114 rfl (sc 115 rfl (sc 116 rfl sn)))))))))))))))))))))))))))))))))) fun s38 => ?_
                  refine chainK 4 (cc rfl (p_move g0 (od rfl id))
                      (cc rfl (p_move g0 (od rfl id))
                      (cc rfl (p_move g0 (od rfl id))
                      (cc rfl (p_move g0 (od rfl id)) cn)))) (by kernel_rfl) s38 fun a39 w39 b39 s39 => ?_
                  have z39 := z38.below b39
                  have hD := hD.below b39
                  show wpList _ _ _ (_ :: _) _ _
                  refine callN (R := fun w' => ∃ D, Goal (a) (mid) d5 D ∧ RowD w' g cap n D ∧ OnlyB (fun i => i = g) w39 w') [.tmp 117, .tmp 118, .tmp 119, .tmp 120] [slD g n cap, .int .i64 ((a : Nat) : Int), .int .i64 ((mid : Nat) : Int), .int .i64 lim2] s39 (by simp [Region.wanted]) (fun _ _ => by kernel_rfl) rfl (by decide) (ac (s39.get 117 rfl) (ac (s39.get 118 rfl) (ac (s39.get 119 rfl) (ac (s39.get 120 rfl) an0)))) (ih _ (a) (mid) d5 lim2 (by omega) hD (by omega) (by omega) hBll) (vv 0 rfl (vv 1 rfl (vv 2 rfl (vv 3 rfl (vv 8 rfl (vv 9 rfl (vv 10 rfl (vv 11 rfl (vv 12 rfl (vv 14 rfl (vv 15 rfl (vv 16 rfl (vv 17 rfl (vv 18 rfl vn)))))))))))))) fun v40 a40 w40 hR40 s40 => ?_
                  obtain ⟨L, ⟨hL1, hL2⟩, hD0, hz40⟩ := hR40
                  have z40 := z39.trans hz40 (fun _ _ h => h)
                  obtain ⟨hBn, hrn⟩ := hrl L hL1 hL2
                  have hD := hD0
                  refine wpList_done ?_
                  refine flowT (s40.keep (sc 0 rfl (sc 1 rfl (sc 2 rfl (sc 3 rfl (sc 8 rfl (sc 9 rfl (sc 10 rfl (sc 11 rfl (sc 12 rfl (sc 14 rfl (sc 15 rfl (sc 16 rfl (sc 17 rfl (sc 18 rfl sn))))))))))))))) (by kernel_rfl) (cc rfl (p_move g0 (od rfl id))
                      (cc rfl (p_binC (m' := ((mid + 1 : Nat) : Int)) (fun _ => by rw [IntKind.wrap_i64]; omega) g0 (od rfl id) (oc _) b_add_3)
                      (cc rfl (p_assign g0 (od rfl id)) cn))) fun a41 w41 b41 s41 => ?_
                  have z41 := z40.below b41
                  have hD := hD.below b41
                  exact ⟨b - (mid + 1), by omega, mid + 1, b, lim2, _, ap, L, rfl, by omega, hbn, by omega, hBn, fun D h => hrest D (hrn D h.1 h.2), hD, z41, s41.to _ ⟨rfl, rfl, rfl, rfl, rfl, rfl, True.intro⟩⟩
                · -- false
                  refine wp_seq ?_
                  refine flowT (s37.keep (sc 0 rfl (sc 1 rfl (sc 2 rfl (sc 3 rfl (sc 8 rfl (sc 9 rfl (sc 10 rfl (sc 11 rfl (sc 12 rfl (sc 14 rfl (sc 15 rfl (sc 16 rfl (sc 17 rfl (sc 18 rfl (sc 94 rfl (sc 99 rfl (sc 100 rfl (sc 101 rfl (sc 102 rfl (sc 103 rfl (sc 104 rfl (sc 105 rfl (sc 106 rfl (sc 107 rfl (sc 108 rfl (sc 109 rfl (sc 110 rfl (sc 111 rfl (sc 112 rfl (sc 113 rfl sn))))))))))))))))))))))))))))))) (by kernel_rfl) (cc rfl (p_move g0 (od rfl id))
                      (cc rfl (p_move g0 (od rfl id))
                      (cc rfl (p_bin g0 (od rfl id) (od rfl id) b_geq_3)
                      (cc rfl (p_assign g0 (od rfl id)) cn)))) fun a42 w42 b42 s42 => ?_
                  have z42 := z37.below b42
                  have hD := hD.below b42
                  refine wp_seq ?_
                  refine wp_region_lit ?_
                  refine with_st (s42.keep (sc 0 rfl (sc 1 rfl (sc 2 rfl (sc 3 rfl (sc 8 rfl (sc 9 rfl (sc 10 rfl (sc 11 rfl (sc 12 rfl (sc 14 rfl (sc 15 rfl (sc 16 rfl (sc 17 rfl (sc 18 rfl (sc 94 rfl (sc 99 rfl (sc 100 rfl (sc 101 rfl (sc 102 rfl (sc 103 rfl (sc 104 rfl (sc 105 rfl (sc 106 rfl (sc 107 rfl (sc 108 rfl (sc 109 rfl (sc 110 rfl (sc 111 rfl (sc 112 rfl (sc 113 rfl (sc 124 rfl (sc 125 rfl (sc 126 rfl sn)))))))))))))))))))))))))))))))))) fun s42 => ?_
                  refine chainK 5 (cc rfl (p_move g0 (od rfl id))
                      (cc rfl (p_move g0 (od rfl id))
                      (cc rfl (p_binC (m' := ((mid + 1 : Nat) : Int)) (fun _ => by rw [IntKind.wrap_i64]; omega) g0 (od rfl id) (oc _) b_add_3)
                      (cc rfl (p_move g0 (od rfl id))
                      (cc rfl (p_move g0 (od rfl id)) cn))))) (by kernel_rfl) s42 fun a43 w43 b43 s43 => ?_
                  have z43 := z42.below b43
                  have hD := hD.below b43
                  show wpList _ _ _ (_ :: _) _ _
                  refine callN (R := fun w' => ∃ D, Goal (mid + 1) (b) d5 D ∧ RowD w' g cap n D ∧ OnlyB (fun i => i = g) w43 w') [.tmp 127, .tmp 129, .tmp 130, .tmp 131] [slD g n cap, .int .i64 ((mid + 1 : Nat) : Int), .int .i64 ((b : Nat) : Int), .int .i64 lim2] s43 (by simp [Region.wanted]) (fun _ _ => by kernel_rfl) rfl (by decide) (ac (s43.get 127 rfl) (ac (s43.get 129 rfl) (ac (s43.get 130 rfl) (ac (s43.get 131 rfl) an0)))) (ih _ (mid + 1) (b) d5 lim2 (by omega) hD (by omega) (by omega) hBlr) (vv 0 rfl (vv 1 rfl (vv 2 rfl (vv 3 rfl (vv 8 rfl (vv 9 rfl (vv 10 rfl (vv 11 rfl (vv 12 rfl (vv 14 rfl (vv 15 rfl (vv 16 rfl (vv 17 rfl (vv 18 rfl vn)))))))))))))) fun v44 a44 w44 hR44 s44 => ?_
                  obtain ⟨L, ⟨hL1, hL2⟩, hD0, hz44⟩ := hR44
                  have z44 := z43.trans hz44 (fun _ _ h => h)
                  obtain ⟨hBn, hrn⟩ := hrr L hL1 hL2
                  have hD := hD0
                  refine wpList_done ?_
                  refine flowT (s44.keep (sc 0 rfl (sc 1 rfl (sc 2 rfl (sc 3 rfl (sc 8 rfl (sc 9 rfl (sc 10 rfl (sc 11 rfl (sc 12 rfl (sc 14 rfl (sc 15 rfl (sc 16 rfl (sc 17 rfl (sc 18 rfl sn))))))))))))))) (by kernel_rfl) (cc rfl (p_move g0 (od rfl id))
                      (cc rfl (p_assign g0 (od rfl id)) cn)) fun a45 w45 b45 s45 => ?_
                  have z45 := z44.below b45
                  have hD := hD.below b45
                  exact ⟨mid - a, by omega, a, mid, lim2, _, ap, L, rfl, by omega, by omega, by omega, hBn, fun D h => hrest D (hrn D h.1 h.2), hD, z45, s45.to _ ⟨rfl, rfl, rfl, rfl, rfl, rfl, True.intro⟩⟩
          · -- false
            obtain ⟨d4, rfl⟩ : ∃ d4, d4 = d3 := ⟨_, rfl⟩
            refine wp_skip ?_
            refine wp_seq ?_
            refine wp_seq ?_
            have s23 := s23.more 0 (y := .rowD g n cap d4) (at_rowD hD (s23.get 0 rfl))
            refine flowC mixed (s23.keep (sc 0 rfl (sc 1 rfl (sc 2 rfl (sc 3 rfl (sc 8 rfl (sc 9 rfl (sc 10 rfl (sc 11 rfl (sc 12 rfl (sc 55 rfl (sc 56 rfl (sc 57 rfl (sc 58 rfl (sc 59 rfl (sc 60 rfl (sc 61 rfl (sc 62 rfl (sc 63 rfl (sc 64 rfl (sc 65 rfl (sc 66 rfl (sc 67 rfl (sc 68 rfl sn)))))))))))))))))))))))) (by kernel_rfl) (by kernel_rfl) (cc rfl (p_move g0 (od rfl id))
                (cc rfl (p_bin g0 (od rfl id) (oc _) b_gtr_3)
                (cc rfl (p_move g0 (od rfl id))
                (cc rfl (p_move (g1 rfl rfl) (od rfl (fun _ => rfl)))
                (cc rfl (p_move (g1 rfl rfl) (od rfl (fun _ => rfl)))
                (cc rfl (p_binC (m' := ((a - 1 : Nat) : Int)) (fun h => by simp at h; rw [IntKind.wrap_i64]; omega) (g1 rfl rfl) (od rfl id) (oc _) b_sub_3)
                (cc rfl (p_idxD (i := a - 1) (fun h => by simp at h; omega) (g1 rfl rfl) (od rfl id) (od rfl id))
                (cc rfl (p_ldD (g1 rfl rfl) (od rfl id))
                (cc rfl (p_move (g1 rfl rfl) (od rfl (fun _ => rfl)))
                (cc rfl (p_move (g1 rfl rfl) (od rfl (fun _ => rfl)))
                (cc rfl (p_idxD (i := pv) (fun h => by simp at h; omega) (g1 rfl rfl) (od rfl id) (od rfl id))
                (cc rfl (p_ldD (g1 rfl rfl) (od rfl id))
                (cc rfl (p_call 60 (g1 rfl rfl) (ox (od rfl id) (ox (od rfl id) ox0)) (fun _ _ => by kernel_rfl) f60)
                (cc rfl (p_not (g1 rfl rfl) (od rfl id))
                (cc rfl (p_and g0 (od rfl id) (od rfl id)) cn))))))))))))))) fun a46 w46 b46 s46 => ?_
            have z46 := z23.below b46
            have hD := hD.below b46
            have s46 := s46.more 0 (y := .val (slD g n cap)) (s46.get 0 rfl).1
            refine s46.cond 87 rfl (fun h87 => ?_) (fun h87 => ?_)
            · -- true
              have h2 := h87
              rw [Bool.and_eq_true, Bool.not_eq_true'] at h2
              obtain ⟨h3, hnl⟩ := h2
              have ha0 : 0 < a := by have h4 := of_decide_eq_true h3; (try dsimp only at h4); omega
              refine wp_seq ?_
              refine wp_region_lit ?_
              refine with_st (s46.keep (sc 0 rfl (sc 1 rfl (sc 2 rfl (sc 3 rfl (sc 8 rfl (sc 9 rfl (sc 10 rfl (sc 11 rfl (sc 12 rfl (sc 55 rfl (sc 56 rfl (sc 57 rfl (sc 58 rfl (sc 59 rfl (sc 60 rfl (sc 61 rfl (sc 62 rfl (sc 63 rfl (sc 64 rfl (sc 65 rfl (sc 66 rfl (sc 67 rfl (sc 68 rfl (sc 73 rfl (sc 74 rfl (sc 75 rfl (sc 76 rfl (sc 77 rfl (sc 78 rfl (sc 79 rfl (sc 80 rfl (sc 81 rfl (sc 82 rfl (sc 83 rfl (sc 84 rfl (sc 85 rfl (sc 86 rfl (sc 87 rfl sn))))))))))))))))))))))))))))))))))))))) fun s46 => ?_
              refine chainK 4 (cc rfl (p_move g0 (od rfl id))
                  (cc rfl (p_move g0 (od rfl id))
                  (cc rfl (p_move g0 (od rfl id))
                  (cc rfl (p_move g0 (od rfl id)) cn)))) (by kernel_rfl) s46 fun a47 w47 b47 s47 => ?_
              have z47 := z46.below b47
              have hD := hD.below b47
              show wpList _ _ _ (_ :: _) _ _
              refine callR (R := fun v w' => ∃ t : Nat × Array Int, partitionEqual ltInt d4 a b pv = t ∧ v = .int .i64 (t.1 : Int) ∧ RowD w' g cap n t.2 ∧ OnlyB (fun i => i = g) w47 w') [.tmp 88, .tmp 89, .tmp 90, .tmp 91] [slD g n cap, .int .i64 (a : Int), .int .i64 (b : Int), .int .i64 (pv : Int)] s47 (by simp [Region.wanted]) (fun _ _ => by kernel_rfl) rfl (by decide) (ac (s47.get 88 rfl) (ac (s47.get 89 rfl) (ac (s47.get 90 rfl) (ac (s47.get 91 rfl) an0)))) (cPeq hD hn hp1 hp2 hbn) (vv 0 rfl (vv 1 rfl (vv 2 rfl (vv 3 rfl (vv 8 rfl (vv 9 rfl (vv 10 rfl (vv 11 rfl (vv 12 rfl vn))))))))) fun v48 a48 w48 hR48 s48 => ?_
              obtain ⟨⟨mid, d5⟩, ht5, e48, hD0, hz48⟩ := hR48
              have z48 := z47.trans hz48 (fun _ _ h => h)
              have s48 := s48.more 92 (y := .int .i64 (mid : Int)) ((s48.get 92 rfl).trans e48)
              obtain ⟨hm1, hm2, _, hBl5, hr5⟩ := Go.Sort.round_eq Go.Sort.swo_ltInt (Go.Sort.partitionEqual_holds _) ha0 hp1 hp2 (by rw [hD.size]; exact hbn) hBl hnl ht5
              replace hD0 : RowD _ g cap n d5 := hD0
              have hD := hD0
              refine chainK 1 (cc rfl (p_assign g0 (od rfl id)) cn) (by kernel_rfl) s48 fun a49 w49 b49 s49 => ?_
              have z49 := z48.below b49
              have hD := hD.below b49
              refine wpList_done ?_
              refine wp_seq ?_
              refine flowT (s49.keep (sc 0 rfl (sc 1 rfl (sc 2 rfl (sc 3 rfl (sc 8 rfl (sc 9 rfl (sc 10 rfl (sc 11 rfl (sc 12 rfl (sc 13 rfl (sc 92 rfl sn)))))))))))) (by kernel_rfl) (cc rfl (p_move g0 (od rfl id))
                  (cc rfl (p_assign g0 (od rfl id)) cn)) fun a50 w50 b50 s50 => ?_
              have z50 := z49.below b50
              have hD := hD.below b50
              refine wp_exit ?_
              exact ⟨b - mid, by omega, mid, b, lim2, wb, wp, d5, rfl, hm2, hbn, by omega, hBl5, fun D h => hrest D (hr5 D h.1 h.2), hD, z50, s50.to _ ⟨rfl, rfl, rfl, rfl, rfl, rfl, True.intro⟩⟩
            · -- false
              refine wp_skip ?_
              refine wp_seq ?_
              refine wp_region_lit ?_
              refine with_st (s46.keep (sc 0 rfl (sc 1 rfl (sc 2 rfl (sc 3 rfl (sc 8 rfl (sc 9 rfl (sc 10 rfl (sc 11 rfl (sc 12 rfl (sc 55 rfl (sc 56 rfl (sc 57 rfl (sc 58 rfl (sc 59 rfl (sc 60 rfl (sc 61 rfl (sc 62 rfl (sc 63 rfl (sc 64 rfl (sc 65 rfl (sc 66 rfl (sc 67 rfl (sc 68 rfl (sc 73 rfl (sc 74 rfl (sc 75 rfl (sc 76 rfl (sc 77 rfl (sc 78 rfl (sc 79 rfl (sc 80 rfl (sc 81 rfl (sc 82 rfl (sc 83 rfl (sc 84 rfl (sc 85 rfl (sc 86 rfl (sc 87 rfl sn))))))))))))))))))))))))))))))))))))))) fun s46 => ?_
              refine chainK 4 (cc rfl (p_move g0 (od rfl id))
                  (cc rfl (p_move g0 (od rfl id))
                  (cc rfl (p_move g0 (od rfl id))
                  (cc rfl (p_move g0 (od rfl id)) cn)))) (by kernel_rfl) s46 fun a51 w51 b51 s51 => ?_
              have z51 := z46.below b51
              have hD := hD.below b51
              show wpList _ _ _ (_ :: _) _ _
              refine callR (R := fun v w' => ∃ t : Nat × Bool × Array Int, partition ltInt d4 a b pv = t ∧ v = .tuple #[.int .i64 (t.1 : Int), .bool t.2.1] ∧ RowD w' g cap n t.2.2 ∧ OnlyB (fun i => i = g) w51 w') [.tmp 95, .tmp 96, .tmp 97, .tmp 98] [slD g n cap, .int .i64 (a : Int), .int .i64 (b : Int), .int .i64 (pv : Int)] s51 (by simp [Region.wanted]) (fun _ _ => by kernel_rfl) rfl (by decide) (ac (s51.get 95 rfl) (ac (s51.get 96 rfl) (ac (s51.get 97 rfl) (ac (s51.get 98 rfl) an0)))) (cPar hD hn hp1 hp2 hbn) (vv 0 rfl (vv 1 rfl (vv 2 rfl (vv 3 rfl (vv 8 rfl (vv 9 rfl (vv 10 rfl (vv 11 rfl (vv 12 rfl vn))))))))) fun v52 a52 w52 hR52 s52 => ?_
              obtain ⟨⟨mid, ap, d5⟩, ht5, e52, hD0, hz52⟩ := hR52
              have z52 := z51.trans hz52 (fun _ _ h => h)
              have s52 := s52.more 99 (y := .two (.int .i64 (mid : Int)) (.bool ap)) (at_two ((s52.get 99 rfl).trans e52))
              obtain ⟨hm1, hm2, _, hBll, hBlr, hrl, hrr⟩ := Go.Sort.round_part Go.Sort.swo_ltInt (Go.Sort.partition_holds _) hp1 hp2 (by rw [hD.size]; exact hbn) hBl ht5
              replace hD0 : RowD _ g cap n d5 := hD0
              have hD := hD0
              refine chainK 5 (cc rfl (p_move g0 (od rfl id))
                  (cc rfl (p_ext0 g0 (od rfl id))
                  (cc rfl (p_ext1 g0 (od rfl id))
                  (cc rfl (p_assign g0 (od rfl id))
                  (cc rfl (p_assign g0 (od rfl id)) cn))))) (by kernel_rfl) s52 fun a53 w53 b53 s53 => ?_
              have z53 := z52.below b53
              have hD := hD.below b53
              refine wpList_done ?_
              refine wp_seq ?_
              refine flowT (s53.keep (sc 0 rfl (sc 1 rfl (sc 2 rfl (sc 3 rfl (sc 8 rfl (sc 9 rfl (sc 10 rfl (sc 11 rfl (sc 12 rfl (sc 14 rfl (sc 15 rfl (sc 94 rfl (sc 99 rfl (sc 100 rfl (sc 101 rfl sn)))))))))))))))) (by kernel_rfl) (cc rfl (p_move g0 (od rfl id))
                  (cc rfl (p_assign g0 (od rfl id)) cn)) fun a54 w54 b54 s54 => ?_
              have z54 := z53.below b54
              have hD := hD.below b54
              refine wp_seq ?_
              refine flowC mixed (s54.keep (sc 0 rfl (sc 1 rfl (sc 2 rfl (sc 3 rfl (sc 8 rfl (sc 9 rfl (sc 10 rfl (sc 11 rfl (sc 12 rfl (sc 14 rfl (sc 15 rfl (sc 94 rfl (sc 99 rfl (sc 100 rfl (sc 101 rfl (sc 102 rfl sn))))))))))))))))) (by kernel_rfl) (by kernel_rfl) (cc rfl (p_move g0 (od rfl id))
                  (cc rfl (p_move g0 (od rfl id))
                  (cc rfl (p_binC (m' := ((mid - a : Nat) : Int)) (fun _ => by rw [IntKind.wrap_i64]; omega) g0 (od rfl id) (od rfl id) b_sub_3)
                  (cc rfl (p_move g0 (od rfl id))
                  (cc rfl (p_move g0 (od rfl id))
                  (cc rfl (p_binC (m' := ((b - mid : Nat) : Int)) (fun _ => by rw [IntKind.wrap_i64]; omega) g0 (od rfl id) (od rfl id) b_sub_3)
                  (cc rfl (p_assign g0 (od rfl id))
                  (cc rfl (p_assign g0 (od rfl id)) cn)))))))) fun a55 w55 b55 s55 => ?_
              have z55 := z54.below b55
              have hD := hD.below b55
              refine wp_seq ?_
              refine flowC mixed (s55.keep (sc 0 rfl (sc 1 rfl (sc 2 rfl (sc 3 rfl (sc 8 rfl (sc 9 rfl (sc 10 rfl (sc 11 rfl (sc 12 rfl (sc 14 rfl (sc 15 rfl (sc 16 rfl (sc 17 rfl (sc 94 rfl (sc 99 rfl (sc 100 rfl (sc 101 rfl (sc 102 rfl (sc 103 rfl (sc 104 rfl (sc 105 rfl (sc 106 rfl (sc 107 rfl (sc 108 rfl sn))))))))))))))))))))))))) (by kernel_rfl) (by kernel_rfl) (cc rfl (p_move g0 (od rfl id))
                  (cc rfl (p_binC (m' := (((b - a) / 8 : Nat) : Int)) (fun _ => rfl) g0 (od rfl id) (oc _) (b_quo_3 (a := (b - a)) (b := 8) (by omega) (by omega)))
                  (cc rfl (p_assign g0 (od rfl id)) cn))) fun a56 w56 b56 s56 => ?_
              have z56 := z55.below b56
              have hD := hD.below b56
              refine wp_seq ?_
              refine flowC mixed (s56.keep (sc 0 rfl (sc 1 rfl (sc 2 rfl (sc 3 rfl (sc 8 rfl (sc 9 rfl (sc 10 rfl (sc 11 rfl (sc 12 rfl (sc 14 rfl (sc 15 rfl (sc 16 rfl (sc 17 rfl (sc 18 rfl (sc 94 rfl (sc 99 rfl (sc 100 rfl (sc 101 rfl (sc 102 rfl (sc 103 rfl (sc 104 rfl (sc 105 rfl (sc 106 rfl (sc 107 rfl (sc 108 rfl (sc 109 rfl (sc 110 rfl sn)))))))))))))))))))))))))))) (by kernel_rfl) (by kernel_rfl) (cc rfl (p_move g0 (od rfl id))
                  (cc rfl (p_move g0 (od rfl id))
                  (cc rfl (p_bin g0 (od rfl id) (od rfl id) b_lss_3) cn))) fun a57 w57 b57 s57 => ?_
              have z57 := z56.below b57
              have hD := hD.below b57
              refine s57.cond 113 rfl (fun h113 => ?_) (fun h113 => ?_)
              · -- true
                refine wp_seq ?_
                refine flowT (s57.keep (sc 0 rfl (sc 1 rfl (sc 2 rfl (sc 3 rfl (sc 8 rfl (sc 9 rfl (sc 10 rfl (sc 11 rfl (sc 12 rfl (sc 14 rfl (sc 15 rfl (sc 16 rfl (sc 17 rfl (sc 18 rfl (sc 94 rfl (sc 99 rfl (sc 100 rfl (sc 101 rfl (sc 102 rfl (sc 103 rfl (sc 104 rfl (sc 105 rfl (sc 106 rfl (sc 107 rfl (sc 108 rfl (sc 109 rfl (sc 110 rfl (sc 111 rfl (sc 112 rfl (sc 113 rfl sn))))))))))))))))))))))))))))))) (by kernel_rfl) (cc rfl (p_move g0 (od rfl id))
                    (cc rfl (p_move g0 (od rfl id))
                    (cc rfl (p_bin g0 (od rfl id) (od rfl id) b_geq_3)
                    (cc rfl (p_assign g0 (od rfl id)) cn)))) fun a58 w58 b58 s58 => ?_
                have z58 := z57.below b58
                have hD := hD.below b58
                refine wp_seq ?_
                refine wp_region_lit ?_
                refine with_st (s58.keep (sc 0 rfl (sc 1 rfl (sc 2 rfl (sc 3 rfl (sc 8 rfl (sc 9 rfl (sc 10 rfl (sc 11 rfl (sc 12 rfl (sc 14 rfl (sc 15 rfl (sc 16 rfl (sc 17 rfl (sc 18 rfl (sc 94 rfl (sc 99 rfl (sc 100 rfl (sc 101 rfl (sc 102 rfl (sc 103 rfl (sc 104 rfl (sc 105 rfl (sc 106 rfl (sc 107 rfl (sc 108 rfl (sc 109 rfl (sc 110 rfl (sc 111 rfl (sc 112 rfl (sc 113 rfl (sc 114 rfl (sc 115 rfl (sc 116 rfl sn)))))))))))))))))))))))))))))))))) fun s58 => ?_
                refine chainK 4 (cc rfl (p_move g0 (od rfl id))
                    (cc rfl (p_move g0 (od rfl id))
                    (cc rfl (p_move g0 (od rfl id))
                    (cc rfl (p_move g0 (od rfl id)) cn)))) (by kernel_rfl) s58 fun a59 w59 b59 s59 => ?_
                have z59 := z58.below b59
                have hD := hD.below b59
                show wpList _ _ _ (_ :: _) _ _
                refine callN (R := fun w' => ∃ D, Goal (a) (mid) d5 D ∧ RowD w' g cap n D ∧ OnlyB (fun i => i = g) w59 w') [.tmp 117, .tmp 118, .tmp 119, .tmp 120] [slD g n cap, .int .i64 ((a : Nat) : Int), .int .i64 ((mid : Nat) : Int), .int .i64 lim2] s59 (by simp [Region.wanted]) (fun _ _ => by kernel_rfl) rfl (by decide) (ac (s59.get 117 rfl) (ac (s59.get 118 rfl) (ac (s59.get 119 rfl) (ac (s59.get 120 rfl) an0)))) (ih _ (a) (mid) d5 lim2 (by omega) hD (by omega) (by omega) hBll) (vv 0 rfl (vv 1 rfl (vv 2 rfl (vv 3 rfl (vv 8 rfl (vv 9 rfl (vv 10 rfl (vv 11 rfl (vv 12 rfl (vv 14 rfl (vv 15 rfl (vv 16 rfl (vv 17 rfl (vv 18 rfl vn)))))))))))))) fun v60 a60 w60 hR60 s60 => ?_
                obtain ⟨L, ⟨hL1, hL2⟩, hD0, hz60⟩ := hR60
                have z60 := z59.trans hz60 (fun _ _ h => h)
                obtain ⟨hBn, hrn⟩ := hrl L hL1 hL2
                have hD := hD0
                refine wpList_done ?_
                refine flowT (s60.keep (sc 0 rfl (sc 1 rfl (sc 2 rfl (sc 3 rfl (sc 8 rfl (sc 9 rfl (sc 10 rfl (sc 11 rfl (sc 12 rfl (sc 14 rfl (sc 15 rfl (sc 16 rfl (sc 17 rfl (sc 18 rfl sn))))))))))))))) (by kernel_rfl) (cc rfl (p_move g0 (od rfl id))
                    (cc rfl (p_binC (m' := ((mid + 1 : Nat) : Int)) (fun _ => by rw [IntKind.wrap_i64]; omega) g0 (od rfl id) (oc _) b_add_3)
                    (cc rfl (p_assign g0 (od rfl id)) cn))) fun a61 w61 b61 s61 => ?_
                have z61 := z60.below b61
                have hD := hD.below b61
                exact ⟨b - (mid + 1), by omega, mid + 1, b, lim2, _, ap, L, rfl, by omega, hbn, by omega, hBn, fun D h => hrest D (hrn D h.1 h.2), hD, z61, s61.to _ ⟨rfl, rfl, rfl, rfl, rfl, rfl, True.intro⟩⟩
              · -- false
                refine wp_seq ?_
                refine flowT (s57.keep (sc 0 rfl (sc 1 rfl (sc 2 rfl (sc 3 rfl (sc 8 rfl (sc 9 rfl (sc 10 rfl (sc 11 rfl (sc 12 rfl (sc 14 rfl (sc 15 rfl (sc 16 rfl (sc 17 rfl (sc 18 rfl (sc 94 rfl (sc 99 rfl (sc 100 rfl (sc 101 rfl (sc 102 rfl (sc 103 rfl (sc 104 rfl (sc 105 rfl (sc 106 rfl (sc 107 rfl (sc 108 rfl (sc 109 rfl (sc 110 rfl (sc 111 rfl (sc 112 rfl (sc 113 rfl sn))))))))))))))))))))))))))))))) (by kernel_rfl) (cc rfl (p_move g0 (od rfl id))
                    (cc rfl (p_move g0 (od rfl id))
                    (cc rfl (p_bin g0 (od rfl id) (od rfl id) b_geq_3)
                    (cc rfl (p_assign g0 (od rfl id)) cn)))) fun a62 w62 b62 s62 => ?_
                have z62 := z57.below b62
                have hD := hD.below b62
                refine wp_seq ?_
                refine wp_region_lit ?_
                refine with_st (s62.keep (sc 0 rfl (sc 1 rfl (sc 2 rfl (sc 3 rfl (sc 8 rfl (sc 9 rfl (sc 10 rfl (sc 11 rfl (sc 12 rfl (sc 14 rfl (sc 15 rfl (sc 16 rfl (sc 17 rfl (sc 18 rfl (sc 94 rfl (sc 99 rfl (sc 100 rfl (sc 101 rfl (sc 102 rfl (sc 103 rfl (sc 104 rfl (sc 105 rfl (sc 106 rfl (sc 107 rfl (sc 108 rfl (sc 109 rfl (sc 110 rfl (sc 111 rfl (sc 112 rfl (sc 113 rfl (sc 124 rfl (sc 125 rfl (sc 126 rfl sn)))))))))))))))))))))))))))))))))) fun s62 => ?_
                refine chainK 5 (cc rfl (p_move g0 (od rfl id))
                    (cc rfl (p_move g0 (od rfl id))
                    (cc rfl (p_binC (m' := ((mid + 1 : Nat) : Int)) (fun _ => by rw [IntKind.wrap_i64]; omega) g0 (od rfl id) (oc _) b_add_3)
                    (cc rfl (p_move g0 (od rfl id))
                    (cc rfl (p_move g0 (od rfl id)) cn))))) (by kernel_rfl) s62 fun a63 w63 b63 s63 => ?_
                have z63 := z62.below b63
                have hD := hD.below b63
                show wpList _ _ _ (_ :: _) _ _
                refine callN (R := fun w' => ∃ D, Goal (mid + 1) (b) d5 D ∧ RowD w' g cap n D ∧ OnlyB (fun i => i = g) w63 w') [.tmp 127, .tmp 129, .tmp 130, .tmp 131] [slD g n cap, .int .i64 ((mid + 1 : Nat) : Int), .int .i64 ((b : Nat) : Int), .int .i64 lim2] s63 (by simp [Region.wanted]) (fun _ _ => by kernel_rfl) rfl (by decide) (ac (s63.get 127 rfl) (ac (s63.get 129 rfl) (ac (s63.get 130 rfl) (ac (s63.get 131 rfl) an0)))) (ih _ (mid + 1) (b) d5 lim2 (by omega) hD (by omega) (by omega) hBlr) (vv 0 rfl (vv 1 rfl (vv 2 rfl (vv 3 rfl (vv 8 rfl (vv 9 rfl (vv 10 rfl (vv 11 rfl (vv 12 rfl (vv 14 rfl (vv 15 rfl (vv 16 rfl (vv 17 rfl (vv 18 rfl vn)))))))))))))) fun v64 a64 w64 hR64 s64 => ?_
                obtain ⟨L, ⟨hL1, hL2⟩, hD0, hz64⟩ := hR64
                have z64 := z63.trans hz64 (fun _ _ h => h)
                obtain ⟨hBn, hrn⟩ := hrr L hL1 hL2
                have hD := hD0
                refine wpList_done ?_
                refine flowT (s64.keep (sc 0 rfl (sc 1 rfl (sc 2 rfl (sc 3 rfl (sc 8 rfl (sc 9 rfl (sc 10 rfl (sc 11 rfl (sc 12 rfl (sc 14 rfl (sc 15 rfl (sc 16 rfl (sc 17 rfl (sc 18 rfl sn))))))))))))))) (by kernel_rfl) (cc rfl (p_move g0 (od rfl id))
                    (cc rfl (p_assign g0 (od rfl id)) cn)) fun a65 w65 b65 s65 => ?_
                have z65 := z64.below b65
                have hD := hD.below b65
                exact ⟨mid - a, by omega, a, mid, lim2, _, ap, L, rfl, by omega, by omega, by omega, hBn, fun D h => hrest D (hrn D h.1 h.2), hD, z65, s65.to _ ⟨rfl, rfl, rfl, rfl, rfl, rfl, True.intro⟩⟩
        · -- false
          obtain ⟨d3, rfl⟩ : ∃ d3, d3 = d2 := ⟨_, rfl⟩
          obtain ⟨pv, rfl⟩ : ∃ pv, pv = p := ⟨_, rfl⟩
          obtain ⟨h1, rfl⟩ : ∃ h1, h1 = h0 := ⟨_, rfl⟩
          refine wp_skip ?_
          refine wp_seq ?_
          refine wp_seq ?_
          refine flowC mixed (s18.keep (sc 0 rfl (sc 1 rfl (sc 2 rfl (sc 3 rfl (sc 8 rfl (sc 9 rfl (sc 10 rfl (sc 11 rfl (sc 12 rfl (sc 42 rfl (sc 46 rfl (sc 47 rfl (sc 48 rfl (sc 49 rfl (sc 50 rfl sn)))))))))))))))) (by kernel_rfl) (by kernel_rfl) (cc rfl (p_move g0 (od rfl id))
              (cc rfl (p_move g0 (od rfl id))
              (cc rfl (p_move (g1 rfl rfl) (od rfl (fun _ => rfl)))
              (cc rfl (p_and g0 (od rfl id) (od rfl id))
              (cc rfl (p_move g0 (od rfl id))
              (cc rfl (p_move (g1 rfl rfl) (od rfl (fun _ => rfl)))
              (cc rfl (p_bin (g1 rfl rfl) (od rfl id) (oc _) b_eql_142)
              (cc rfl (p_and g0 (od rfl id) (od rfl id)) cn)))))))) fun a66 w66 b66 s66 => ?_
          have z66 := z18.below b66
          have hD := hD.below b66
          refine s66.cond 68 rfl (fun h68 => ?_) (fun h68 => ?_)
          · -- true
            refine wp_seq ?_
            refine wp_region_lit ?_
            refine with_st (s66.keep (sc 0 rfl (sc 1 rfl (sc 2 rfl (sc 3 rfl (sc 8 rfl (sc 9 rfl (sc 10 rfl (sc 11 rfl (sc 12 rfl (sc 42 rfl (sc 46 rfl (sc 47 rfl (sc 48 rfl (sc 49 rfl (sc 50 rfl (sc 61 rfl (sc 62 rfl (sc 63 rfl (sc 64 rfl (sc 65 rfl (sc 66 rfl (sc 67 rfl (sc 68 rfl sn)))))))))))))))))))))))) fun s66 => ?_
            refine chainK 3 (cc rfl (p_move g0 (od rfl id))
                (cc rfl (p_move g0 (od rfl id))
                (cc rfl (p_move g0 (od rfl id)) cn))) (by kernel_rfl) s66 fun a67 w67 b67 s67 => ?_
            have z67 := z66.below b67
            have hD := hD.below b67
            show wpList _ _ _ (_ :: _) _ _
            refine callR (R := fun v w' => ∃ t : Array Int × Bool, partialInsertionSort ltInt d3 a b = t ∧ v = .bool t.2 ∧ RowD w' g cap n t.1 ∧ OnlyB (fun i => i = g) w67 w') [.tmp 69, .tmp 70, .tmp 71] [slD g n cap, .int .i64 (a : Int), .int .i64 (b : Int)] s67 (by simp [Region.wanted]) (fun _ _ => by kernel_rfl) rfl (by decide) (ac (s67.get 69 rfl) (ac (s67.get 70 rfl) (ac (s67.get 71 rfl) an0))) (cPin hD hn (by omega) hbn) (vv 0 rfl (vv 1 rfl (vv 2 rfl (vv 3 rfl (vv 8 rfl (vv 9 rfl (vv 10 rfl (vv 11 rfl (vv 12 rfl vn))))))))) fun v68 a68 w68 hR68 s68 => ?_
            obtain ⟨⟨d4, b4⟩, ht4, e68, hD0, hz68⟩ := hR68
            have z68 := z67.trans hz68 (fun _ _ h => h)
            have s68 := s68.more 72 (y := .bool b4) ((s68.get 72 rfl).trans e68)
            have hpi := Go.Sort.partialInsertionSort_holds Go.Sort.swo_ltInt d3 a b (by omega) (by rw [hD.size]; exact hbn) hBl
            rw [ht4] at hpi
            replace hpi : PermIn a b d3 d4 ∧ (b4 = true → SortedIn ltInt a b d4) := hpi
            replace hD0 : RowD _ g cap n d4 := hD0
            refine wpList_done ?_
            refine s68.cond 72 rfl (fun h72 => ?_) (fun h72 => ?_)
            · -- true
              have hgo : Goal A B d d4 := hrest _ ⟨hpi.1, hpi.2 h72⟩
              have hD := hD0
              exact wp_ret (ret_n (fn := Try.f70) (R := fun w' => ∃ D, Goal A B d D ∧ RowD w' g cap n D ∧ OnlyB (fun i => i = g) w w') s68 rfl ⟨_, hgo, hD, z68⟩)
            · -- false
              have hBl := Go.Sort.Below.perm hBl (by rw [hD.size]; exact hbn) hpi.1
              have hrest := hrest.perm hpi.1
              have hD := hD0
              refine wp_skip ?_
              refine wp_seq ?_
              refine wp_seq ?_
              have s68 := s68.more 0 (y := .rowD g n cap d4) (at_rowD hD (s68.get 0 rfl))
              refine flowC mixed (s68.keep (sc 0 rfl (sc 1 rfl (sc 2 rfl (sc 3 rfl (sc 8 rfl (sc 9 rfl (sc 10 rfl (sc 11 rfl (sc 12 rfl (sc 72 rfl sn))))))))))) (by kernel_rfl) (by kernel_rfl) (cc rfl (p_move g0 (od rfl id))
                  (cc rfl (p_bin g0 (od rfl id) (oc _) b_gtr_3)
                  (cc rfl (p_move g0 (od rfl id))
                  (cc rfl (p_move (g1 rfl rfl) (od rfl (fun _ => rfl)))
                  (cc rfl (p_move (g1 rfl rfl) (od rfl (fun _ => rfl)))
                  (cc rfl (p_binC (m' := ((a - 1 : Nat) : Int)) (fun h => by simp at h; rw [IntKind.wrap_i64]; omega) (g1 rfl rfl) (od rfl id) (oc _) b_sub_3)
                  (cc rfl (p_idxD (i := a - 1) (fun h => by simp at h; omega) (g1 rfl rfl) (od rfl id) (od rfl id))
                  (cc rfl (p_ldD (g1 rfl rfl) (od rfl id))
                  (cc rfl (p_move (g1 rfl rfl) (od rfl (fun _ => rfl)))
                  (cc rfl (p_move (g1 rfl rfl) (od rfl (fun _ => rfl)))
                  (cc rfl (p_idxD (i := pv) (fun h => by simp at h; omega) (g1 rfl rfl) (od rfl id) (od rfl id))
                  (cc rfl (p_ldD (g1 rfl rfl) (od rfl id))
                  (cc rfl (p_call 60 (g1 rfl rfl) (ox (od rfl id) (ox (od rfl id) ox0)) (fun _ _ => by kernel_rfl) f60)
                  (cc rfl (p_not (g1 rfl rfl) (od rfl id))
                  (cc rfl (p_and g0 (od rfl id) (od rfl id)) cn))))))))))))))) fun a69 w69 b69 s69 => ?_
              have z69 := z68.below b69
              have hD := hD.below b69
              have s69 := s69.more 0 (y := .val (slD g n cap)) (s69.get 0 rfl).1
              refine s69.cond 87 rfl (fun h87 => ?_) (fun h87 => ?_)
              · -- true
                have h2 := h87
                rw [Bool.and_eq_true, Bool.not_eq_true'] at h2
                obtain ⟨h3, hnl⟩ := h2
                have ha0 : 0 < a := by have h4 := of_decide_eq_true h3; (try dsimp only at h4); omega
                refine wp_seq ?_
                refine wp_region_lit ?_
                refine with_st (s69.keep (sc 0 rfl (sc 1 rfl (sc 2 rfl (sc 3 rfl (sc 8 rfl (sc 9 rfl (sc 10 rfl (sc 11 rfl (sc 12 rfl (sc 72 rfl (sc 73 rfl (sc 74 rfl (sc 75 rfl (sc 76 rfl (sc 77 rfl (sc 78 rfl (sc 79 rfl (sc 80 rfl (sc 81 rfl (sc 82 rfl (sc 83 rfl (sc 84 rfl (sc 85 rfl (sc 86 rfl (sc 87 rfl sn)))))))))))))))))))))))))) fun s69 => ?_
                refine chainK 4 (cc rfl (p_move g0 (od rfl id))
                    (cc rfl (p_move g0 (od rfl id))
                    (cc rfl (p_move g0 (od rfl id))
                    (cc rfl (p_move g0 (od rfl id)) cn)))) (by kernel_rfl) s69 fun a70 w70 b70 s70 => ?_
                have z70 := z69.below b70
                have hD := hD.below b70
                show wpList _ _ _ (_ :: _) _ _
                refine callR (R := fun v w' => ∃ t : Nat × Array Int, partitionEqual ltInt d4 a b pv = t ∧ v = .int .i64 (t.1 : Int) ∧ RowD w' g cap n t.2 ∧ OnlyB (fun i => i = g) w70 w') [.tmp 88, .tmp 89, .tmp 90, .tmp 91] [slD g n cap, .int .i64 (a : Int), .int .i64 (b : Int), .int .i64 (pv : Int)] s70 (by simp [Region.wanted]) (fun _ _ => by kernel_rfl) rfl (by decide) (ac (s70.get 88 rfl) (ac (s70.get 89 rfl) (ac (s70.get 90 rfl) (ac (s70.get 91 rfl) an0)))) (cPeq hD hn hp1 hp2 hbn) (vv 0 rfl (vv 1 rfl (vv 2 rfl (vv 3 rfl (vv 8 rfl (vv 9 rfl (vv 10 rfl (vv 11 rfl (vv 12 rfl vn))))))))) fun v71 a71 w71 hR71 s71 => ?_
                obtain ⟨⟨mid, d5⟩, ht5, e71, hD0, hz71⟩ := hR71
                have z71 := z70.trans hz71 (fun _ _ h => h)
                have s71 := s71.more 92 (y := .int .i64 (mid : Int)) ((s71.get 92 rfl).trans e71)
                obtain ⟨hm1, hm2, _, hBl5, hr5⟩ := Go.Sort.round_eq Go.Sort.swo_ltInt (Go.Sort.partitionEqual_holds _) ha0 hp1 hp2 (by rw [hD.size]; exact hbn) hBl hnl ht5
                replace hD0 : RowD _ g cap n d5 := hD0
                have hD := hD0
                refine chainK 1 (cc rfl (p_assign g0 (od rfl id)) cn) (by kernel_rfl) s71 fun a72 w72 b72 s72 => ?_
                have z72 := z71.below b72
                have hD := hD.below b72
                refine wpList_done ?_
                refine wp_seq ?_
                refine flowT (s72.keep (sc 0 rfl (sc 1 rfl (sc 2 rfl (sc 3 rfl (sc 8 rfl (sc 9 rfl (sc 10 rfl (sc 11 rfl (sc 12 rfl (sc 13 rfl (sc 92 rfl sn)))))))))))) (by kernel_rfl) (cc rfl (p_move g0 (od rfl id))
                    (cc rfl (p_assign g0 (od rfl id)) cn)) fun a73 w73 b73 s73 => ?_
                have z73 := z72.below b73
                have hD := hD.below b73
                refine wp_exit ?_
                exact ⟨b - mid, by omega, mid, b, lim2, wb, wp, d5, rfl, hm2, hbn, by omega, hBl5, fun D h => hrest D (hr5 D h.1 h.2), hD, z73, s73.to _ ⟨rfl, rfl, rfl, rfl, rfl, rfl, True.intro⟩⟩
              · -- false
                refine wp_skip ?_
                refine wp_seq ?_
                refine wp_region_lit ?_
                refine with_st (s69.keep (sc 0 rfl (sc 1 rfl (sc 2 rfl (sc 3 rfl (sc 8 rfl (sc 9 rfl (sc 10 rfl (sc 11 rfl (sc 12 rfl (sc 72 rfl (sc 73 rfl (sc 74 rfl (sc 75 rfl (sc 76 rfl (sc 77 rfl (sc 78 rfl (sc 79 rfl (sc 80 rfl (sc 81 rfl (sc 82 rfl (sc 83 rfl (sc 84 rfl (sc 85 rfl (sc 86 rfl (sc 87 rfl sn)))))))))))))))))))))))))) fun s69 => ?_
                refine chainK 4 (cc rfl (p_move g0 (od rfl id))
                    (cc rfl (p_move g0 (od rfl id))
                    (cc rfl (p_move g0 (od rfl id))
                    (cc rfl (p_move g0 (od rfl id)) cn)))) (by kernel_rfl) s69 fun a74 w74 b74 s74 => ?_
                have z74 := z69.below b74
                have hD := hD.below b74
                show wpList _ _ _ (_ :: _) _ _
                refine callR (R := fun v w' => ∃ t : Nat × Bool × Array Int, partition ltInt d4 a b pv = t ∧ v = .tuple #[.int .i64 (t.1 : Int), .bool t.2.1] ∧ RowD w' g cap n t.2.2 ∧ OnlyB (fun i => i = g) w74 w') [.tmp 95, .tmp 96, .tmp 97, .tmp 98] [slD g n cap, .int .i64 (a : Int), .int .i64 (b : Int), .int .i64 (pv : Int)] s74 (by simp [Region.wanted]) (fun _ _ => by kernel_rfl) rfl (by decide) (ac (s74.get 95 rfl) (ac (s74.get 96 rfl) (ac (s74.get 97 rfl) (ac (s74.get 98 rfl) an0)))) (cPar hD hn hp1 hp2 hbn) (vv 0 rfl (vv 1 rfl (vv 2 rfl (vv 3 rfl (vv 8 rfl (vv 9 rfl (vv 10 rfl (vv 11 rfl (vv 12 rfl vn))))))))) fun v75 a75 w75 hR75 s75 => ?_
                obtain ⟨⟨mid, ap, d5⟩, ht5, e75, hD0, hz75⟩ := hR75
                have z75 := z74.trans hz75 (fun _ _ h => h)
                have s75 := s75.more 99 (y := .two (.int .i64 (mid : Int)) (.bool ap)) (at_two ((s75.get 99 rfl).trans e75))
                obtain ⟨hm1, hm2, _, hBll, hBlr, hrl, hrr⟩ := Go.Sort.round_part Go.Sort.swo_ltInt (Go.Sort.partition_holds _) hp1 hp2 (by rw [hD.size]; exact hbn) hBl ht5
                replace hD0 : RowD _ g cap n d5 := hD0
                have hD := hD0
                refine chainK 5 (cc rfl (p_move g0 (od rfl id))
                    (cc rfl (p_ext0 g0 (od rfl id))
                    (cc rfl (p_ext1 g0 (od rfl id))
                    (cc rfl (p_assign g0 (od rfl id))
                    (cc rfl (p_assign g0 (od rfl id)) cn))))) (by kernel_rfl) s75 fun a76 w76 b76 s76 => ?_
                have z76 := z75.below b76
                have hD := hD.below b76
                refine wpList_done ?_
                refine wp_seq ?_
                refine flowT (s76.keep (sc 0 rfl (sc 1 rfl (sc 2 rfl (sc 3 rfl (sc 8 rfl (sc 9 rfl (sc 10 rfl (sc 11 rfl (sc 12 rfl (sc 14 rfl (sc 15 rfl (sc 94 rfl (sc 99 rfl (sc 100 rfl (sc 101 rfl sn)))))))))))))))) (by kernel_rfl) (cc rfl (p_move g0 (od rfl id))
                    (cc rfl (p_assign g0 (od rfl id)) cn)) fun a77 w77 b77 s77 => ?_
                have z77 := z76.below b77
                have hD := hD.below b77
                refine wp_seq ?_
                refine flowC mixed (s77.keep (sc 0 rfl (sc 1 rfl (sc 2 rfl (sc 3 rfl (sc 8 rfl (sc 9 rfl (sc 10 rfl (sc 11 rfl (sc 12 rfl (sc 14 rfl (sc 15 rfl (sc 94 rfl (sc 99 rfl (sc 100 rfl (sc 101 rfl (sc 102 rfl sn))))))))))))))))) (by kernel_rfl) (by kernel_rfl) (cc rfl (p_move g0 (od rfl id))
                    (cc rfl (p_move g0 (od rfl id))
                    (cc rfl (p_binC (m' := ((mid - a : Nat) : Int)) (fun _ => by rw [IntKind.wrap_i64]; omega) g0 (od rfl id) (od rfl id) b_sub_3)
                    (cc rfl (p_move g0 (od rfl id))
                    (cc rfl (p_move g0 (od rfl id))
                    (cc rfl (p_binC (m' := ((b - mid : Nat) : Int)) (fun _ => by rw [IntKind.wrap_i64]; omega) g0 (od rfl id) (od rfl id) b_sub_3)
                    (cc rfl (p_assign g0 (od rfl id))
                    (cc rfl (p_assign g0 (od rfl id)) cn)))))))) fun a78 w78 b78 s78 => ?_
                have z78 := z77.below b78
                have hD := hD.below b78
                refine wp_seq ?_
                refine flowC mixed (s78.keep (sc 0 rfl (sc 1 rfl (sc 2 rfl (sc 3 rfl (sc 8 rfl (sc 9 rfl (sc 10 rfl (sc 11 rfl (sc 12 rfl (sc 14 rfl (sc 15 rfl (sc 16 rfl (sc 17 rfl (sc 94 rfl (sc 99 rfl (sc 100 rfl (sc 101 rfl (sc 102 rfl (sc 103 rfl (sc 104 rfl (sc 105 rfl (sc 106 rfl (sc 107 rfl (sc 108 rfl sn))))))))))))))))))))))))) (by kernel_rfl) (by kernel_rfl) (cc rfl (p_move g0 (od rfl id))
                    (cc rfl (p_binC (m' := (((b - a) / 8 : Nat) : Int)) (fun _ => rfl) g0 (od rfl id) (oc _) (b_quo_3 (a := (b - a)) (b := 8) (by omega) (by omega)))
                    (cc rfl (p_assign g0 (od rfl id)) cn))) fun a79 w79 b79 s79 => ?_
                have z79 := z78.below b79
                have hD := hD.below b79
                refine wp_seq ?_
                refine flowC mixed (s79.keep (sc 0 rfl (sc 1 rfl (sc 2 rfl (sc 3 rfl (sc 8 rfl (sc 9 rfl (sc 10 rfl (sc 11 rfl (sc 12 rfl (sc 14 rfl (sc 15 rfl (sc 16 rfl (sc 17 rfl (sc 18 rfl (sc 94 rfl (sc 99 rfl (sc 100 rfl (sc 101 rfl (sc 102 rfl (sc 103 rfl (sc 104 rfl (sc 105 rfl (sc 106 rfl (sc 107 rfl (sc 108 rfl (sc 109 rfl (sc 110 rfl sn)))))))))))))))))))))))))))) (by kernel_rfl) (by kernel_rfl) (cc rfl (p_move g0 (od rfl id))
                    (cc rfl (p_move g0 (od rfl id))
                    (cc rfl (p_bin g0 (od rfl id) (od rfl id) b_lss_3) cn))) fun a80 w80 b80 s80 => ?_
                have z80 := z79.below b80
                have hD := hD.below b80
                refine s80.cond 113 rfl (fun h113 => ?_) (fun h113 => ?_)
                · -- true
                  refine wp_seq ?_
                  refine flowT (s80.keep (sc 0 rfl (sc 1 rfl (sc 2 rfl (sc 3 rfl (sc 8 rfl (sc 9 rfl (sc 10 rfl (sc 11 rfl (sc 12 rfl (sc 14 rfl (sc 15 rfl (sc 16 rfl (sc 17 rfl (sc 18 rfl (sc 94 rfl (sc 99 rfl (sc 100 rfl (sc 101 rfl (sc 102 rfl (sc 103 rfl (sc 104 rfl (sc 105 rfl (sc 106 rfl (sc 107 rfl (sc 108 rfl (sc 109 rfl (sc 110 rfl (sc 111 rfl (sc 112 rfl (sc 113 rfl sn))))))))))))))))))))))))))))))) (by kernel_rfl) (cc rfl (p_move g0 (od rfl id))
                      (cc rfl (p_move g0 (od rfl id))
                      (cc rfl (p_bin g0 (od rfl id) (od rfl id) b_geq_3)
                      (cc rfl (p_assign g0 (od rfl id)) cn)))) fun a81 w81 b81 s81 => ?_
                  have z81 := z80.below b81
                  have hD := hD.below b81
                  refine wp_seq ?_
                  refine wp_region_lit ?_
                  refine with_st (s81.keep (sc 0 rfl (sc 1 rfl (sc 2 rfl (sc 3 rfl (sc 8 rfl (sc 9 rfl (sc 10 rfl (sc 11 rfl (sc 12 rfl (sc 14 rfl (sc 15 rfl (sc 16 rfl (sc 17 rfl (sc 18 rfl (sc 94 rfl (sc 99 rfl (sc 100 rfl (sc 101 rfl (sc 102 rfl (sc 103 rfl (sc 104 rfl (sc 105 rfl (sc 106 rfl (sc 107 rfl (sc 108 rfl (sc 109 rfl (sc 110 rfl (sc 111 rfl (sc 112 rfl (sc 113 rfl (sc 114 rfl (sc 115 rfl (sc 116 rfl sn)))))))))))))))))))))))))))))))))) fun s81 => ?_
                  refine chainK 4 (cc rfl (p_move g0 (od rfl id))
                      (cc rfl (p_move g0 (od rfl id))
                      (cc rfl (p_move g0 (od rfl id))
                      (cc rfl (p_move g0 (od rfl id)) cn)))) (by kernel_rfl) s81 fun a82 w82 b82 s82 => ?_
                  have z82 := z81.below b82
                  have hD := hD.below b82
                  show wpList _ _ _ (_ :: _) _ _
                  refine callN (R := fun w' => ∃ D, Goal (a) (mid) d5 D ∧ RowD w' g cap n D ∧ OnlyB (fun i => i = g) w82 w') [.tmp 117, .tmp 118, .tmp 119, .tmp 120] [slD g n cap, .int .i64 ((a : Nat) : Int), .int .i64 ((mid : Nat) : Int), .int .i64 lim2] s82 (by simp [Region.wanted]) (fun _ _ => by kernel_rfl) rfl (by decide) (ac (s82.get 117 rfl) (ac (s82.get 118 rfl) (ac (s82.get 119 rfl) (ac (s82.get 120 rfl) an0)))) (ih _ (a) (mid) d5 lim2 (by omega) hD (by omega) (by omega) hBll) (vv 0 rfl (vv 1 rfl (vv 2 rfl (vv 3 rfl (vv 8 rfl (vv 9 rfl (vv 10 rfl (vv 11 rfl (vv 12 rfl (vv 14 rfl (vv 15 rfl (vv 16 rfl (vv 17 rfl (vv 18 rfl vn)))))))))))))) fun v83 a83 w83 hR83 s83 => ?_
                  obtain ⟨L, ⟨hL1, hL2⟩, hD0, hz83⟩ := hR83
                  have z83 := z82.trans hz83 (fun _ _ h => h)
                  obtain ⟨hBn, hrn⟩ := hrl L hL1 hL2
                  have hD := hD0
                  refine wpList_done ?_
                  refine flowT (s83.keep (sc 0 rfl (sc 1 rfl (sc 2 rfl (sc 3 rfl (sc 8 rfl (sc 9 rfl (sc 10 rfl (sc 11 rfl (sc 12 rfl (sc 14 rfl (sc 15 rfl (sc 16 rfl (sc 17 rfl (sc 18 rfl sn))))))))))))))) (by kernel_rfl) (cc rfl (p_move g0 (od rfl id))
                      (cc rfl (p_binC (m' := ((mid + 1 : Nat) : Int)) (fun _ => by rw [IntKind.wrap_i64]; omega) g0 (od rfl id) (oc _) b_add_3)
                      (cc rfl (p_assign g0 (od rfl id)) cn))) fun a84 w84 b84 s84 => ?_
                  have z84 := z83.below b84
                  have hD := hD.below b84
                  exact ⟨b - (mid + 1), by omega, mid + 1, b, lim2, _, ap, L, rfl, by omega, hbn, by omega, hBn, fun D h => hrest D (hrn D h.1 h.2), hD, z84, s84.to _ ⟨rfl, rfl, rfl, rfl, rfl, rfl, True.intro⟩⟩
                · -- false
                  refine wp_seq ?_
                  refine flowT (s80.keep (sc 0 rfl (sc 1 rfl (sc 2 rfl (sc 3 rfl (sc 8 rfl (sc 9 rfl (sc 10 rfl (sc 11 rfl (sc 12 rfl (sc 14 rfl (sc 15 rfl (sc 16 rfl (sc 17 rfl (sc 18 rfl (sc 94 rfl (sc 99 rfl (sc 100 rfl (sc 101 rfl (sc 102 rfl (sc 103 rfl (sc 104 rfl (sc 105 rfl (sc 106 rfl (sc 107 rfl (sc 108 rfl (sc 109 rfl (sc 110 rfl (sc 111 rfl (sc 112 rfl (sc 113 rfl sn))))))))))))))))))))))))))))))) (by kernel_rfl) (cc rfl (p_move g0 (od rfl id))
                      (cc rfl (p_move g0 (od rfl id))
                      (cc rfl (p_bin g0 (od rfl id) (od rfl id) b_geq_3)
                      (cc rfl (p_assign g0 (od rfl id)) cn)))) fun a85 w85 b85 s85 => ?_
                  have z85 := z80.below b85
                  have hD := hD.below b85
                  refine wp_seq ?_
                  refine wp_region_lit ?_
                  refine with_st (s85.keep (sc 0 rfl (sc 1 rfl (sc 2 rfl (sc 3 rfl (sc 8 rfl (sc 9 rfl (sc 10 rfl (sc 11 rfl (sc 12 rfl (sc 14 rfl (sc 15 rfl (sc 16 rfl (sc 17 rfl (sc 18 rfl (sc 94 rfl (sc 99 rfl (sc 100 rfl (sc 101 rfl (sc 102 rfl (sc 103 rfl (sc 104 rfl (sc 105 rfl (sc 106 rfl (sc 107 rfl (sc 108 rfl (sc 109 rfl (sc 110 rfl (sc 111 rfl (sc 112 rfl (sc 113 rfl (sc 124 rfl (sc 125 rfl (sc 126 rfl sn)))))))))))))))))))))))))))))))))) fun s85 => ?_
                  refine chainK 5 (cc rfl (p_move g0 (od rfl id))
                      (cc rfl (p_move g0 (od rfl id))
                      (cc rfl (p_binC (m' := ((mid + 1 : Nat) : Int)) (fun _ => by rw [IntKind.wrap_i64]; omega) g0 (od rfl id) (oc _) b_add_3)
                      (cc rfl (p_move g0 (od rfl id))
                      (cc rfl (p_move g0 (od rfl id)) cn))))) (by kernel_rfl) s85 fun a86 w86 b86 s86 => ?_
                  have z86 := z85.below b86
                  have hD := hD.below b86
                  show wpList _ _ _ (_ :: _) _ _
                  refine callN (R := fun w' => ∃ D, Goal (mid + 1) (b) d5 D ∧ RowD w' g cap n D ∧ OnlyB (fun i => i = g) w86 w') [.tmp 127, .tmp 129, .tmp 130, .tmp 131] [slD g n cap, .int .i64 ((mid + 1 : Nat) : Int), .int .i64 ((b : Nat) : Int), .int .i64 lim2] s86 (by simp [Region.wanted]) (fun _ _ => by kernel_rfl) rfl (by decide) (ac (s86.get 127 rfl) (ac (s86.get 129 rfl) (ac (s86.get 130 rfl) (ac (s86.get 131 rfl) an0)))) (ih _ (mid + 1) (b) d5 lim2 (by omega) hD (by omega) (by omega) hBlr) (vv 0 rfl (vv 1 rfl (vv 2 rfl (vv 3 rfl (vv 8 rfl (vv 9 rfl (vv 10 rfl (vv 11 rfl (vv 12 rfl (vv 14 rfl (vv 15 rfl (vv 16 rfl (vv 17 rfl (vv 18 rfl vn)))))))))))))) fun v87 a87 w87 hR87 s87 => ?_
                  obtain ⟨L, ⟨hL1, hL2⟩, hD0, hz87⟩ := hR87
                  have z87 := z86.trans hz87 (fun _ _ h => h)
                  obtain ⟨hBn, hrn⟩ := hrr L hL1 hL2
                  have hD := hD0
                  refine wpList_done ?_
                  refine flowT (s87.keep (sc 0 rfl (sc 1 rfl (sc 2 rfl (sc 3 rfl (sc 8 rfl (sc 9 rfl (sc 10 rfl (sc 11 rfl (sc 12 rfl (sc 14 rfl (sc 15 rfl (sc 16 rfl (sc 17 rfl (sc 18 rfl sn))))))))))))))) (by kernel_rfl) (cc rfl (p_move g0 (od rfl id))
                      (cc rfl (p_assign g0 (od rfl id)) cn)) fun a88 w88 b88 s88 => ?_
                  have z88 := z87.below b88
                  have hD := hD.below b88
                  exact ⟨mid - a, by omega, a, mid, lim2, _, ap, L, rfl, by omega, by omega, by omega, hBn, fun D h => hrest D (hrn D h.1 h.2), hD, z88, s88.to _ ⟨rfl, rfl, rfl, rfl, rfl, rfl, True.intro⟩⟩
          · -- false
            obtain ⟨d4, rfl⟩ : ∃ d4, d4 = d3 := ⟨_, rfl⟩
            refine wp_skip ?_
            refine wp_seq ?_
            refine wp_seq ?_
            have s66 := s66.more 0 (y := .rowD g n cap d4) (at_rowD hD (s66.get 0 rfl))
            refine flowC mixed (s66.keep (sc 0 rfl (sc 1 rfl (sc 2 rfl (sc 3 rfl (sc 8 rfl (sc 9 rfl (sc 10 rfl (sc 11 rfl (sc 12 rfl (sc 42 rfl (sc 46 rfl (sc 47 rfl (sc 48 rfl (sc 49 rfl (sc 50 rfl (sc 61 rfl (sc 62 rfl (sc 63 rfl (sc 64 rfl (sc 65 rfl (sc 66 rfl (sc 67 rfl (sc 68 rfl sn)))))))))))))))))))))))) (by kernel_rfl) (by kernel_rfl) (cc rfl (p_move g0 (od rfl id))
                (cc rfl (p_bin g0 (od rfl id) (oc _) b_gtr_3)
                (cc rfl (p_move g0 (od rfl id))
                (cc rfl (p_move (g1 rfl rfl) (od rfl (fun _ => rfl)))
                (cc rfl (p_move (g1 rfl rfl) (od rfl (fun _ => rfl)))
                (cc rfl (p_binC (m' := ((a - 1 : Nat) : Int)) (fun h => by simp at h; rw [IntKind.wrap_i64]; omega) (g1 rfl rfl) (od rfl id) (oc _) b_sub_3)
                (cc rfl (p_idxD (i := a - 1) (fun h => by simp at h; omega) (g1 rfl rfl) (od rfl id) (od rfl id))
                (cc rfl (p_ldD (g1 rfl rfl) (od rfl id))
                (cc rfl (p_move (g1 rfl rfl) (od rfl (fun _ => rfl)))
                (cc rfl (p_move (g1 rfl rfl) (od rfl (fun _ => rfl)))
                (cc rfl (p_idxD (i := pv) (fun h => by simp at h; omega) (g1 rfl rfl) (od rfl id) (od rfl id))
                (cc rfl (p_ldD (g1 rfl rfl) (od rfl id))
                (cc rfl (p_call 60 (g1 rfl rfl) (ox (od rfl id) (ox (od rfl id) ox0)) (fun _ _ => by kernel_rfl) f60)
                (cc rfl (p_not (g1 rfl rfl) (od rfl id))
                (cc rfl (p_and g0 (od rfl id) (od rfl id)) cn))))))))))))))) fun a89 w89 b89 s89 => ?_
            have z89 := z66.below b89
            have hD := hD.below b89
            have s89 := s89.more 0 (y := .val (slD g n cap)) (s89.get 0 rfl).1
            refine s89.cond 87 rfl (fun h87 => ?_) (fun h87 => ?_)
            · -- true
              have h2 := h87
              rw [Bool.and_eq_true, Bool.not_eq_true'] at h2
              obtain ⟨h3, hnl⟩ := h2
              have ha0 : 0 < a := by have h4 := of_decide_eq_true h3; (try dsimp only at h4); omega
              refine wp_seq ?_
              refine wp_region_lit ?_
              refine with_st (s89.keep (sc 0 rfl (sc 1 rfl (sc 2 rfl (sc 3 rfl (sc 8 rfl (sc 9 rfl (sc 10 rfl (sc 11 rfl (sc 12 rfl (sc 42 rfl (sc 46 rfl (sc 47 rfl (sc 48 rfl (sc 49 rfl (sc 50 rfl (sc 61 rfl (sc 62 rfl (sc 63 rfl (sc 64 rfl (sc 65 rfl (sc 66 rfl (sc 67 rfl (sc 68 rfl (sc 73 rfl (sc 74 rfl (sc 75 rfl (sc 76 rfl (sc 77 rfl (sc 78 rfl (sc 79 rfl (sc 80 rfl (sc 81 rfl (sc 82 rfl (sc 83 rfl (sc 84 rfl (sc 85 rfl (sc 86 rfl (sc 87 rfl sn))))))))))))))))))))))))))))))))))))))) fun s89 => ?_
              refine chainK 4 (cc rfl (p_move g0 (od rfl id))
                  (cc rfl (p_move g0 (od rfl id))
                  (cc rfl (p_move g0 (od rfl id))
                  (cc rfl (p_move g0 (od rfl id)) cn)))) (by kernel_rfl) s89 fun a90 w90 b90 s90 => ?_
              have z90 := z89.below b90
              have hD := hD.below b90
              show wpList _ _ _ (_ :: _) _ _
              refine callR (R := fun v w' => ∃ t : Nat × Array Int, partitionEqual ltInt d4 a b pv = t ∧ v = .int .i64 (t.1 : Int) ∧ RowD w' g cap n t.2 ∧ OnlyB (fun i => i = g) w90 w') [.tmp 88, .tmp 89, .tmp 90, .tmp 91] [slD g n cap, .int .i64 (a : Int), .int .i64 (b : Int), .int .i64 (pv : Int)] s90 (by simp [Region.wanted]) (fun _ _ => by kernel_rfl) rfl (by decide) (ac (s90.get 88 rfl) (ac (s90.get 89 rfl) (ac (s90.get 90 rfl) (ac (s90.get 91 rfl) an0)))) (cPeq hD hn hp1 hp2 hbn) (vv 0 rfl (vv 1 rfl (vv 2 rfl (vv 3 rfl (vv 8 rfl (vv 9 rfl (vv 10 rfl (vv 11 rfl (vv 12 rfl vn))))))))) fun v91 a91 w91 hR91 s91 => ?_
              obtain ⟨⟨mid, d5⟩, ht5, e91, hD0, hz91⟩ := hR91
              have z91 := z90.trans hz91 (fun _ _ h => h)
              have s91 := s91.more 92 (y := .int .i64 (mid : Int)) ((s91.get 92 rfl).trans e91)
              obtain ⟨hm1, hm2, _, hBl5, hr5⟩ := Go.Sort.round_eq Go.Sort.swo_ltInt (Go.Sort.partitionEqual_holds _) ha0 hp1 hp2 (by rw [hD.size]; exact hbn) hBl hnl ht5
              replace hD0 : RowD _ g cap n d5 := hD0
              have hD := hD0
              refine chainK 1 (cc rfl (p_assign g0 (od rfl id)) cn) (by kernel_rfl) s91 fun a92 w92 b92 s92 => ?_
              have z92 := z91.below b92
              have hD := hD.below b92
              refine wpList_done ?_
              refine wp_seq ?_
              refine flowT (s92.keep (sc 0 rfl (sc 1 rfl (sc 2 rfl (sc 3 rfl (sc 8 rfl (sc 9 rfl (sc 10 rfl (sc 11 rfl (sc 12 rfl (sc 13 rfl (sc 92 rfl sn)))))))))))) (by kernel_rfl) (cc rfl (p_move g0 (od rfl id))
                  (cc rfl (p_assign g0 (od rfl id)) cn)) fun a93 w93 b93 s93 => ?_
              have z93 := z92.below b93
              have hD := hD.below b93
              refine wp_exit ?_
              exact ⟨b - mid, by omega, mid, b, lim2, wb, wp, d5, rfl, hm2, hbn, by omega, hBl5, fun D h => hrest D (hr5 D h.1 h.2), hD, z93, s93.to _ ⟨rfl, rfl, rfl, rfl, rfl, rfl, True.intro⟩⟩
            · -- false
              refine wp_skip ?_
              refine wp_seq ?_
              refine wp_region_lit ?_
              refine with_st (s89.keep (sc 0 rfl (sc 1 rfl (sc 2 rfl (sc 3 rfl (sc 8 rfl (sc 9 rfl (sc 10 rfl (sc 11 rfl (sc 12 rfl (sc 42 rfl (sc 46 rfl (sc 47 rfl (sc 48 rfl (sc 49 rfl (sc 50 rfl (sc 61 rfl (sc 62 rfl (sc 63 rfl (sc 64 rfl (sc 65 rfl (sc 66 rfl (sc 67 rfl (sc 68 rfl (sc 73 rfl (sc 74 rfl (sc 75 rfl (sc 76 rfl (sc 77 rfl (sc 78 rfl (sc 79 rfl (sc 80 rfl (sc 81 rfl (sc 82 rfl (sc 83 rfl (sc 84 rfl (sc 85 rfl (sc 86 rfl (sc 87 rfl sn))))))))))))))))))))))))))))))))))))))) fun s89 => ?_
              refine chainK 4 (cc rfl (p_move g0 (od rfl id))
                  (cc rfl (p_move g0 (od rfl id))
                  (cc rfl (p_move g0 (od rfl id))
                  (cc rfl (p_move g0 (od rfl id)) cn)))) (by kernel_rfl) s89 fun a94 w94 b94 s94 => ?_
              have z94 := z89.below b94
              have hD := hD.below b94
              show wpList _ _ _ (_ :: _) _ _
              refine callR (R := fun v w' => ∃ t : Nat × Bool × Array Int, partition ltInt d4 a b pv = t ∧ v = .tuple #[.int .i64 (t.1 : Int), .bool t.2.1] ∧ RowD w' g cap n t.2.2 ∧ OnlyB (fun i => i = g) w94 w') [.tmp 95, .tmp 96, .tmp 97, .tmp 98] [slD g n cap, .int .i64 (a : Int), .int .i64 (b : Int), .int .i64 (pv : Int)] s94 (by simp [Region.wanted]) (fun _ _ => by kernel_rfl) rfl (by decide) (ac (s94.get 95 rfl) (ac (s94.get 96 rfl) (ac (s94.get 97 rfl) (ac (s94.get 98 rfl) an0)))) (cPar hD hn hp1 hp2 hbn) (vv 0 rfl (vv 1 rfl (vv 2 rfl (vv 3 rfl (vv 8 rfl (vv 9 rfl (vv 10 rfl (vv 11 rfl (vv 12 rfl vn))))))))) fun v95 a95 w95 hR95 s95 => ?_
              obtain ⟨⟨mid, ap, d5⟩, ht5, e95, hD0, hz95⟩ := hR95
              have z95 := z94.trans hz95 (fun _ _ h => h)
              have s95 := s95.more 99 (y := .two (.int .i64 (mid : Int)) (.bool ap)) (at_two ((s95.get 99 rfl).trans e95))
              obtain ⟨hm1, hm2, _, hBll, hBlr, hrl, hrr⟩ := Go.Sort.round_part Go.Sort.swo_ltInt (Go.Sort.partition_holds _) hp1 hp2 (by rw [hD.size]; exact hbn) hBl ht5
              replace hD0 : RowD _ g cap n d5 := hD0
              have hD := hD0
              refine chainK 5 (cc rfl (p_move g0 (od rfl id))
                  (cc rfl (p_ext0 g0 (od rfl id))
                  (cc rfl (p_ext1 g0 (od rfl id))
                  (cc rfl (p_assign g0 (od rfl id))
                  (cc rfl (p_assign g0 (od rfl id)) cn))))) (by kernel_rfl) s95 fun a96 w96 b96 s96 => ?_
              have z96 := z95.below b96
              have hD := hD.below b96
              refine wpList_done ?_
              refine wp_seq ?_
              refine flowT (s96.keep (sc 0 rfl (sc 1 rfl (sc 2 rfl (sc 3 rfl (sc 8 rfl (sc 9 rfl (sc 10 rfl (sc 11 rfl (sc 12 rfl (sc 14 rfl (sc 15 rfl (sc 94 rfl (sc 99 rfl (sc 100 rfl (sc 101 rfl sn)))))))))))))))) (by kernel_rfl) (cc rfl (p_move g0 (od rfl id))
                  (cc rfl (p_assign g0 (od rfl id)) cn)) fun a97 w97 b97 s97 => ?_
              have z97 := z96.below b97
              have hD := hD.below b97
              refine wp_seq ?_
              refine flowC mixed (s97.keep (sc 0 rfl (sc 1 rfl (sc 2 rfl (sc 3 rfl (sc 8 rfl (sc 9 rfl (sc 10 rfl (sc 11 rfl (sc 12 rfl (sc 14 rfl (sc 15 rfl (sc 94 rfl (sc 99 rfl (sc 100 rfl (sc 101 rfl (sc 102 rfl sn))))))))))))))))) (by kernel_rfl) (by kernel_rfl) (cc rfl (p_move g0 (od rfl id))
                  (cc rfl (p_move g0 (od rfl id))
                  (cc rfl (p_binC (m' := ((mid - a : Nat) : Int)) (fun _ => by rw [IntKind.wrap_i64]; omega) g0 (od rfl id) (od rfl id) b_sub_3)
                  (cc rfl (p_move g0 (od rfl id))
                  (cc rfl (p_move g0 (od rfl id))
                  (cc rfl (p_binC (m' := ((b - mid : Nat) : Int)) (fun _ => by rw [IntKind.wrap_i64]; omega) g0 (od rfl id) (od rfl id) b_sub_3)
                  (cc rfl (p_assign g0 (od rfl id))
                  (cc rfl (p_assign g0 (od rfl id)) cn)))))))) fun a98 w98 b98 s98 => ?_
              have z98 := z97.below b98
              have hD := hD.below b98
              refine wp_seq ?_
              refine flowC mixed (s98.keep (sc 0 rfl (sc 1 rfl (sc 2 rfl (sc 3 rfl (sc 8 rfl (sc 9 rfl (sc 10 rfl (sc 11 rfl (sc 12 rfl (sc 14 rfl (sc 15 rfl (sc 16 rfl (sc 17 rfl (sc 94 rfl (sc 99 rfl (sc 100 rfl (sc 101 rfl (sc 102 rfl (sc 103 rfl (sc 104 rfl (sc 105 rfl (sc 106 rfl (sc 107 rfl (sc 108 rfl sn))))))))))))))))))))))))) (by kernel_rfl) (by kernel_rfl) (cc rfl (p_move g0 (od rfl id))
                  (cc rfl (p_binC (m' := (((b - a) / 8 : Nat) : Int)) (fun _ => rfl) g0 (od rfl id) (oc _) (b_quo_3 (a := (b - a)) (b := 8) (by omega) (by omega)))
                  (cc rfl (p_assign g0 (od rfl id)) cn))) fun a99 w99 b99 s99 => ?_
              have z99 := z98.below b99
              have hD := hD.below b99
              refine wp_seq ?_
              refine flowC mixed (s99.keep (sc 0 rfl (sc 1 rfl (sc 2 rfl (sc 3 rfl (sc 8 rfl (sc 9 rfl (sc 10 rfl (sc 11 rfl (sc 12 rfl (sc 14 rfl (sc 15 rfl (sc 16 rfl (sc 17 rfl (sc 18 rfl (sc 94 rfl (sc 99 rfl (sc 100 rfl (sc 101 rfl (sc 102 rfl (sc 103 rfl (sc 104 rfl (sc 105 rfl (sc 106 rfl (sc 107 rfl (sc 108 rfl (sc 109 rfl (sc 110 rfl sn)))))))))))))))))))))))))))) (by kernel_rfl) (by kernel_rfl) (cc rfl (p_move g0 (od rfl id))
                  (cc rfl (p_move g0 (od rfl id))
                  (cc rfl (p_bin g0 (od rfl id) (od rfl id) b_lss_3) cn))) fun a100 w100 b100 s100 => ?_
              have z100 := z99.below b100
              have hD := hD.below b100
              refine s100.cond 113 rfl (fun h113 => ?_) (fun h113 => ?_)
              · -- true
                refine wp_seq ?_
                refine flowT (s100.keep (sc 0 rfl (sc 1 rfl (sc 2 rfl (sc 3 rfl (sc 8 rfl (sc 9 rfl (sc 10 rfl (sc 11 rfl (sc 12 rfl (sc 14 rfl (sc 15 rfl (sc 16 rfl (sc 17 rfl (sc 18 rfl (sc 94 rfl (sc 99 rfl (sc 100 rfl (sc 101 rfl (sc 102 rfl (sc 103 rfl (sc 104 rfl (sc 105 rfl (sc 106 rfl (sc 107 rfl (sc 108 rfl (sc 109 rfl (sc 110 rfl (sc 111 rfl (sc 112 rfl (sc 113 rfl sn))))))))))))))))))))))))))))))) (by kernel_rfl) (cc rfl (p_move g0 (od rfl id))
                    (cc rfl (p_move g0 (od rfl id))
                    (cc rfl (p_bin g0 (od rfl id) (od rfl id) b_geq_3)
                    (cc rfl (p_assign g0 (od rfl id)) cn)))) fun a101 w101 b101 s101 => ?_
                have z101 := z100.below b101
                have hD := hD.below b101
                refine wp_seq ?_
                refine wp_region_lit ?_
                refine with_st (s101.keep (sc 0 rfl (sc 1 rfl (sc 2 rfl (sc 3 rfl (sc 8 rfl (sc 9 rfl (sc 10 rfl (sc 11 rfl (sc 12 rfl (sc 14 rfl (sc 15 rfl (sc 16 rfl (sc 17 rfl (sc 18 rfl (sc 94 rfl (sc 99 rfl (sc 100 rfl (sc 101 rfl (sc 102 rfl (sc 103 rfl (sc 104 rfl (sc 105 rfl (sc 106 rfl (sc 107 rfl (sc 108 rfl (sc 109 rfl (sc 110 rfl (sc 111 rfl (sc 112 rfl (sc 113 rfl (sc 114 rfl (sc 115 rfl (sc 116 rfl sn)))))))))))))))))))))))))))))))))) fun s101 => ?_
                refine chainK 4 (cc rfl (p_move g0 (od rfl id))
                    (cc rfl (p_move g0 (od rfl id))
                    (cc rfl (p_move g0 (od rfl id))
                    (cc rfl (p_move g0 (od rfl id)) cn)))) (by kernel_rfl) s101 fun a102 w102 b102 s102 => ?_
                have z102 := z101.below b102
                have hD := hD.below b102
                show wpList _ _ _ (_ :: _) _ _
                refine callN (R := fun w' => ∃ D, Goal (a) (mid) d5 D ∧ RowD w' g cap n D ∧ OnlyB (fun i => i = g) w102 w') [.tmp 117, .tmp 118, .tmp 119, .tmp 120] [slD g n cap, .int .i64 ((a : Nat) : Int), .int .i64 ((mid : Nat) : Int), .int .i64 lim2] s102 (by simp [Region.wanted]) (fun _ _ => by kernel_rfl) rfl (by decide) (ac (s102.get 117 rfl) (ac (s102.get 118 rfl) (ac (s102.get 119 rfl) (ac (s102.get 120 rfl) an0)))) (ih _ (a) (mid) d5 lim2 (by omega) hD (by omega) (by omega) hBll) (vv 0 rfl (vv 1 rfl (vv 2 rfl (vv 3 rfl (vv 8 rfl (vv 9 rfl (vv 10 rfl (vv 11 rfl (vv 12 rfl (vv 14 rfl (vv 15 rfl (vv 16 rfl (vv 17 rfl (vv 18 rfl vn)))))))))))))) fun v103 a103 w103 hR103 s103 => ?_
                obtain ⟨L, ⟨hL1, hL2⟩, hD0, hz103⟩ := hR103
                have z103 := z102.trans hz103 (fun _ _ h => h)
                obtain ⟨hBn, hrn⟩ := hrl L hL1 hL2
                have hD := hD0
                refine wpList_done ?_
                refine flowT (s103.keep (sc 0 rfl (sc 1 rfl (sc 2 rfl (sc 3 rfl (sc 8 rfl (sc 9 rfl (sc 10 rfl (sc 11 rfl (sc 12 rfl (sc 14 rfl (sc 15 rfl (sc 16 rfl (sc 17 rfl (sc 18 rfl sn))))))))))))))) (by kernel_rfl) (cc rfl (p_move g0 (od rfl id))
                    (cc rfl (p_binC (m' := ((mid + 1 : Nat) : Int)) (fun _ => by rw [IntKind.wrap_i64]; omega) g0 (od rfl id) (oc _) b_add_3)
                    (cc rfl (p_assign g0 (od rfl id)) cn))) fun a104 w104 b104 s104 => ?_
                have z104 := z103.below b104
                have hD := hD.below b104
                exact ⟨b - (mid + 1), by omega, mid + 1, b, lim2, _, ap, L, rfl, by omega, hbn, by omega, hBn, fun D h => hrest D (hrn D h.1 h.2), hD, z104, s104.to _ ⟨rfl, rfl, rfl, rfl, rfl, rfl, True.intro⟩⟩
              · -- false
                refine wp_seq ?_
                refine flowT (s100.keep (sc 0 rfl (sc 1 rfl (sc 2 rfl (sc 3 rfl (sc 8 rfl (sc 9 rfl (sc 10 rfl (sc 11 rfl (sc 12 rfl (sc 14 rfl (sc 15 rfl (sc 16 rfl (sc 17 rfl (sc 18 rfl (sc 94 rfl (sc 99 rfl (sc 100 rfl (sc 101 rfl (sc 102 rfl (sc 103 rfl (sc 104 rfl (sc 105 rfl (sc 106 rfl (sc 107 rfl (sc 108 rfl (sc 109 rfl (sc 110 rfl (sc 111 rfl (sc 112 rfl (sc 113 rfl sn))))))))))))))))))))))))))))))) (by kernel_rfl) (cc rfl (p_move g0 (od rfl id))
                    (cc rfl (p_move g0 (od rfl id))
                    (cc rfl (p_bin g0 (od rfl id) (od rfl id) b_geq_3)
                    (cc rfl (p_assign g0 (od rfl id)) cn)))) fun a105 w105 b105 s105 => ?_
                have z105 := z100.below b105
                have hD := hD.below b105
                refine wp_seq ?_
                refine wp_region_lit ?_
                refine with_st (s105.keep (sc 0 rfl (sc 1 rfl (sc 2 rfl (sc 3 rfl (sc 8 rfl (sc 9 rfl (sc 10 rfl (sc 11 rfl (sc 12 rfl (sc 14 rfl (sc 15 rfl (sc 16 rfl (sc 17 rfl (sc 18 rfl (sc 94 rfl (sc 99 rfl (sc 100 rfl (sc 101 rfl (sc 102 rfl (sc 103 rfl (sc 104 rfl (sc 105 rfl (sc 106 rfl (sc 107 rfl (sc 108 rfl (sc 109 rfl (sc 110 rfl (sc 111 rfl (sc 112 rfl (sc 113 rfl (sc 124 rfl (sc 125 rfl (sc 126 rfl sn)))))))))))))))))))))))))))))))))) fun s105 => ?_
                refine chainK 5 (cc rfl (p_move g0 (od rfl id))
                    (cc rfl (p_move g0 (od rfl id))
                    (cc rfl (p_binC (m' := ((mid + 1 : Nat) : Int)) (fun _ => by rw [IntKind.wrap_i64]; omega) g0 (od rfl id) (oc _) b_add_3)
                    (cc rfl (p_move g0 (od rfl id))
                    (cc rfl (p_move g0 (od rfl id)) cn))))) (by kernel_rfl) s105 fun a106 w106 b106 s106 => ?_
                have z106 := z105.below b106
                have hD := hD.below b106
                show wpList _ _ _ (_ :: _) _ _
                refine callN (R := fun w' => ∃ D, Goal (mid + 1) (b) d5 D ∧ RowD w' g cap n D ∧ OnlyB (fun i => i = g) w106 w') [.tmp 127, .tmp 129, .tmp 130, .tmp 131] [slD g n cap, .int .i64 ((mid + 1 : Nat) : Int), .int .i64 ((b : Nat) : Int), .int .i64 lim2] s106 (by simp [Region.wanted]) (fun _ _ => by kernel_rfl) rfl (by decide) (ac (s106.get 127 rfl) (ac (s106.get 129 rfl) (ac (s106.get 130 rfl) (ac (s106.get 131 rfl) an0)))) (ih _ (mid + 1) (b) d5 lim2 (by omega) hD (by omega) (by omega) hBlr) (vv 0 rfl (vv 1 rfl (vv 2 rfl (vv 3 rfl (vv 8 rfl (vv 9 rfl (vv 10 rfl (vv 11 rfl (vv 12 rfl (vv 14 rfl (vv 15 rfl (vv 16 rfl (vv 17 rfl (vv 18 rfl vn)))))))))))))) fun v107 a107 w107 hR107 s107 => ?_
                obtain ⟨L, ⟨hL1, hL2⟩, hD0, hz107⟩ := hR107
                have z107 := z106.trans hz107 (fun _ _ h => h)
                obtain ⟨hBn, hrn⟩ := hrr L hL1 hL2
                have hD := hD0
                refine wpList_done ?_
                refine flowT (s107.keep (sc 0 rfl (sc 1 rfl (sc 2 rfl (sc 3 rfl (sc 8 rfl (sc 9 rfl (sc 10 rfl (sc 11 rfl (sc 12 rfl (sc 14 rfl (sc 15 rfl (sc 16 rfl (sc 17 rfl (sc 18 rfl sn))))))))))))))) (by kernel_rfl) (cc rfl (p_move g0 (od rfl id))
                    (cc rfl (p_assign g0 (od rfl id)) cn)) fun a108 w108 b108 s108 => ?_
                have z108 := z107.below b108
                have hD := hD.below b108
                exact ⟨mid - a, by omega, a, mid, lim2, _, ap, L, rfl, by omega, by omega, by omega, hBn, fun D h => hrest D (hrn D h.1 h.2), hD, z108, s108.to _ ⟨rfl, rfl, rfl, rfl, rfl, rfl, True.intro⟩⟩
      · -- false
        obtain ⟨d2, rfl⟩ : ∃ d2, d2 = d1 := ⟨_, rfl⟩
        obtain ⟨lim2, rfl⟩ : ∃ lim2, lim2 = lim := ⟨_, rfl⟩
        refine wp_skip ?_
        refine wp_seq ?_
        refine wp_region_lit ?_
        refine with_st (s11.keep (sc 0 rfl (sc 1 rfl (sc 2 rfl (sc 3 rfl (sc 8 rfl (sc 9 rfl (sc 10 rfl (sc 19 rfl (sc 20 rfl (sc 21 rfl (sc 22 rfl (sc 23 rfl (sc 28 rfl (sc 29 rfl (sc 34 rfl (sc 35 rfl sn))))))))))))))))) fun s11 => ?_
        refine chainK 3 (cc rfl (p_move g0 (od rfl id))
            (cc rfl (p_move g0 (od rfl id))
            (cc rfl (p_move g0 (od rfl id)) cn))) (by kernel_rfl) s11 fun a109 w109 b109 s109 => ?_
        have z109 := z11.below b109
        have hD := hD.below b109
        show wpList _ _ _ (_ :: _) _ _
        refine callR (R := fun v w' => ∃ (p : Nat) (h : Int), v = .tuple #[.int .i64 (p : Int), .int .i64 h] ∧ a ≤ p ∧ p < b ∧ Below w109.heap.size w109 w') [.tmp 43, .tmp 44, .tmp 45] [slD g n cap, .int .i64 (a : Int), .int .i64 (b : Int)] s109 (by simp [Region.wanted]) (fun _ _ => by kernel_rfl) rfl (by decide) (ac (s109.get 43 rfl) (ac (s109.get 44 rfl) (ac (s109.get 45 rfl) an0))) (cPiv hD hn (by omega) hbn) (vv 0 rfl (vv 1 rfl (vv 2 rfl (vv 3 rfl (vv 8 rfl (vv 9 rfl (vv 10 rfl vn))))))) fun v110 a110 w110 hR110 s110 => ?_
        obtain ⟨p, h0, e110, hp1, hp2, hb110⟩ := hR110
        have hD := hD.below hb110
        have z110 := z109.below hb110
        have s110 := s110.more 46 (y := .two (.int .i64 (p : Int)) (.int .i64 h0)) (at_two ((s110.get 46 rfl).trans e110))
        refine chainK 5 (cc rfl (p_move g0 (od rfl id))
            (cc rfl (p_ext0 g0 (od rfl id))
            (cc rfl (p_ext1 g0 (od rfl id))
            (cc rfl (p_assign g0 (od rfl id))
            (cc rfl (p_assign g0 (od rfl id)) cn))))) (by kernel_rfl) s110 fun a111 w111 b111 s111 => ?_
        have z111 := z110.below b111
        have hD := hD.below b111
        refine wpList_done ?_
        refine wp_seq ?_
        refine wp_seq ?_
        refine flowC mixed (s111.keep (sc 0 rfl (sc 1 rfl (sc 2 rfl (sc 3 rfl (sc 8 rfl (sc 9 rfl (sc 10 rfl (sc 11 rfl (sc 12 rfl (sc 42 rfl (sc 46 rfl (sc 47 rfl (sc 48 rfl sn)))))))))))))) (by kernel_rfl) (by kernel_rfl) (cc rfl (p_move g0 (od rfl id))
            (cc rfl (p_bin g0 (od rfl id) (oc _) b_eql_142) cn)) fun a112 w112 b112 s112 => ?_
        have z112 := z111.below b112
        have hD := hD.below b112
        refine s112.cond 50 rfl (fun h50 => ?_) (fun h50 => ?_)
        · -- true
          refine wp_seq ?_
          refine wp_region_lit ?_
          refine with_st (s112.keep (sc 0 rfl (sc 1 rfl (sc 2 rfl (sc 3 rfl (sc 8 rfl (sc 9 rfl (sc 10 rfl (sc 11 rfl (sc 12 rfl (sc 42 rfl (sc 46 rfl (sc 47 rfl (sc 48 rfl (sc 49 rfl (sc 50 rfl sn)))))))))))))))) fun s112 => ?_
          refine chainK 3 (cc rfl (p_move g0 (od rfl id))
              (cc rfl (p_move g0 (od rfl id))
              (cc rfl (p_move g0 (od rfl id)) cn))) (by kernel_rfl) s112 fun a113 w113 b113 s113 => ?_
          have z113 := z112.below b113
          have hD := hD.below b113
          show wpList _ _ _ (_ :: _) _ _
          refine callN (R := fun w' => RowD w' g cap n (reverseRange d2 a b) ∧ OnlyB (fun i => i = g) w113 w') [.tmp 51, .tmp 52, .tmp 53] [slD g n cap, .int .i64 (a : Int), .int .i64 (b : Int)] s113 (by simp [Region.wanted]) (fun _ _ => by kernel_rfl) rfl (by decide) (ac (s113.get 51 rfl) (ac (s113.get 52 rfl) (ac (s113.get 53 rfl) an0))) (cRev hD hn (by omega) hbn) (vv 0 rfl (vv 1 rfl (vv 2 rfl (vv 3 rfl (vv 8 rfl (vv 9 rfl (vv 10 rfl (vv 11 rfl (vv 12 rfl vn))))))))) fun v114 a114 w114 hR114 s114 => ?_
          obtain ⟨hD0, hz114⟩ := hR114
          have z114 := z113.trans hz114 (fun _ _ h => h)
          obtain ⟨d3, hd3⟩ : ∃ d3, d3 = reverseRange d2 a b := ⟨_, rfl⟩
          rw [← hd3] at hD0
          have hP3 : PermIn a b d2 d3 := by rw [hd3]; exact Go.Sort.reverseRange_holds d2 a b hab (by rw [hD.size]; exact hbn)
          have hBl := Go.Sort.Below.perm hBl (by rw [hD.size]; exact hbn) hP3
          have hrest := hrest.perm hP3
          have hD := hD0
          refine wpList_done ?_
          refine wp_seq ?_
          refine flowT (s114.keep (sc 0 rfl (sc 1 rfl (sc 2 rfl (sc 3 rfl (sc 8 rfl (sc 9 rfl (sc 10 rfl (sc 11 rfl (sc 12 rfl sn)))))))))) (by kernel_rfl) (cc rfl (p_move g0 (od rfl id))
              (cc rfl (p_binC (m' := ((b - 1 : Nat) : Int)) (fun _ => by rw [IntKind.wrap_i64]; omega) g0 (od rfl id) (oc _) b_sub_3)
              (cc rfl (p_move g0 (od rfl id))
              (cc rfl (p_move g0 (od rfl id))
              (cc rfl (p_binC (m' := ((p - a : Nat) : Int)) (fun _ => by rw [IntKind.wrap_i64]; omega) g0 (od rfl id) (od rfl id) b_sub_3)
              (cc rfl (p_binC (m' := ((b - 1 - (p - a) : Nat) : Int)) (fun _ => by rw [IntKind.wrap_i64]; omega) g0 (od rfl id) (od rfl id) b_sub_3)
              (cc rfl (p_assign g0 (od rfl id)) cn))))))) fun a115 w115 b115 s115 => ?_
          have z115 := z114.below b115
          have hD := hD.below b115
          refine flowT (s115.keep (sc 0 rfl (sc 1 rfl (sc 2 rfl (sc 3 rfl (sc 8 rfl (sc 9 rfl (sc 10 rfl (sc 11 rfl (sc 12 rfl (sc 55 rfl (sc 56 rfl (sc 57 rfl (sc 58 rfl (sc 59 rfl (sc 60 rfl sn)))))))))))))))) (by kernel_rfl) (cc rfl (p_assign g0 (oc _)) cn) fun a116 w116 b116 s116 => ?_
          have z116 := z115.below b116
          have hD := hD.below b116
          obtain ⟨pv, hpv⟩ : ∃ pv, pv = b - 1 - (p - a) := ⟨_, rfl⟩
          obtain ⟨h1, hh1⟩ : ∃ h1 : Int, h1 = 1 := ⟨_, rfl⟩
          have s116 := s116.more 11 (y := .int .i64 (pv : Int)) ((s116.get 11 rfl).trans (by rw [hpv]))
          have s116 := s116.more 12 (y := .int .i64 h1) ((s116.get 12 rfl).trans (by rw [hh1]))
          replace hp1 : a ≤ pv := by omega
          replace hp2 : pv < b := by omega
          refine wp_seq ?_
          refine wp_seq ?_
          refine flowC mixed (s116.keep (sc 0 rfl (sc 1 rfl (sc 2 rfl (sc 3 rfl (sc 8 rfl (sc 9 rfl (sc 10 rfl (sc 11 rfl (sc 12 rfl (sc 55 rfl (sc 56 rfl (sc 57 rfl (sc 58 rfl (sc 59 rfl (sc 60 rfl sn)))))))))))))))) (by kernel_rfl) (by kernel_rfl) (cc rfl (p_move g0 (od rfl id))
              (cc rfl (p_move g0 (od rfl id))
              (cc rfl (p_move (g1 rfl rfl) (od rfl (fun _ => rfl)))
              (cc rfl (p_and g0 (od rfl id) (od rfl id))
              (cc rfl (p_move g0 (od rfl id))
              (cc rfl (p_move (g1 rfl rfl) (od rfl (fun _ => rfl)))
              (cc rfl (p_bin (g1 rfl rfl) (od rfl id) (oc _) b_eql_142)
              (cc rfl (p_and g0 (od rfl id) (od rfl id)) cn)))))))) fun a117 w117 b117 s117 => ?_
          have z117 := z116.below b117
          have hD := hD.below b117
          refine s117.cond 68 rfl (fun h68 => ?_) (fun h68 => ?_)
          · -- true
            refine wp_seq ?_
            refine wp_region_lit ?_
            refine with_st (s117.keep (sc 0 rfl (sc 1 rfl (sc 2 rfl (sc 3 rfl (sc 8 rfl (sc 9 rfl (sc 10 rfl (sc 11 rfl (sc 12 rfl (sc 55 rfl (sc 56 rfl (sc 57 rfl (sc 58 rfl (sc 59 rfl (sc 60 rfl (sc 61 rfl (sc 62 rfl (sc 63 rfl (sc 64 rfl (sc 65 rfl (sc 66 rfl (sc 67 rfl (sc 68 rfl sn)))))))))))))))))))))))) fun s117 => ?_
            refine chainK 3 (cc rfl (p_move g0 (od rfl id))
                (cc rfl (p_move g0 (od rfl id))
                (cc rfl (p_move g0 (od rfl id)) cn))) (by kernel_rfl) s117 fun a118 w118 b118 s118 => ?_
            have z118 := z117.below b118
            have hD := hD.below b118
            show wpList _ _ _ (_ :: _) _ _
            refine callR (R := fun v w' => ∃ t : Array Int × Bool, partialInsertionSort ltInt d3 a b = t ∧ v = .bool t.2 ∧ RowD w' g cap n t.1 ∧ OnlyB (fun i => i = g) w118 w') [.tmp 69, .tmp 70, .tmp 71] [slD g n cap, .int .i64 (a : Int), .int .i64 (b : Int)] s118 (by simp [Region.wanted]) (fun _ _ => by kernel_rfl) rfl (by decide) (ac (s118.get 69 rfl) (ac (s118.get 70 rfl) (ac (s118.get 71 rfl) an0))) (cPin hD hn (by omega) hbn) (vv 0 rfl (vv 1 rfl (vv 2 rfl (vv 3 rfl (vv 8 rfl (vv 9 rfl (vv 10 rfl (vv 11 rfl (vv 12 rfl vn))))))))) fun v119 a119 w119 hR119 s119 => ?_
            obtain ⟨⟨d4, b4⟩, ht4, e119, hD0, hz119⟩ := hR119
            have z119 := z118.trans hz119 (fun _ _ h => h)
            have s119 := s119.more 72 (y := .bool b4) ((s119.get 72 rfl).trans e119)
            have hpi := Go.Sort.partialInsertionSort_holds Go.Sort.swo_ltInt d3 a b (by omega) (by rw [hD.size]; exact hbn) hBl
            rw [ht4] at hpi
            replace hpi : PermIn a b d3 d4 ∧ (b4 = true → SortedIn ltInt a b d4) := hpi
            replace hD0 : RowD _ g cap n d4 := hD0
            refine wpList_done ?_
            refine s119.cond 72 rfl (fun h72 => ?_) (fun h72 => ?_)
            · -- true
              have hgo : Goal A B d d4 := hrest _ ⟨hpi.1, hpi.2 h72⟩
              have hD := hD0
              exact wp_ret (ret_n (fn := Try.f70) (R := fun w' => ∃ D, Goal A B d D ∧ RowD w' g cap n D ∧ OnlyB (fun i => i = g) w w') s119 rfl ⟨_, hgo, hD, z119⟩)
            · -- false
              have hBl := Go.Sort.Below.perm hBl (by rw [hD.size]; exact hbn) hpi.1
              have hrest := hrest.perm hpi.1
              have hD := hD0
              refine wp_skip ?_
              refine wp_seq ?_
              refine wp_seq ?_
              have s119 := s119.more 0 (y := .rowD g n cap d4) (at_rowD hD (s119.get 0 rfl))
              refine flowC mixed (s119.keep (sc 0 rfl (sc 1 rfl (sc 2 rfl (sc 3 rfl (sc 8 rfl (sc 9 rfl (sc 10 rfl (sc 11 rfl (sc 12 rfl (sc 72 rfl sn))))))))))) (by kernel_rfl) (by kernel_rfl) (cc rfl (p_move g0 (od rfl id))
                  (cc rfl (p_bin g0 (od rfl id) (oc _) b_gtr_3)
                  (cc rfl (p_move g0 (od rfl id))
                  (cc rfl (p_move (g1 rfl rfl) (od rfl (fun _ => rfl)))
                  (cc rfl (p_move (g1 rfl rfl) (od rfl (fun _ => rfl)))
                  (cc rfl (p_binC (m' := ((a - 1 : Nat) : Int)) (fun h => by simp at h; rw [IntKind.wrap_i64]; omega) (g1 rfl rfl) (od rfl id) (oc _) b_sub_3)
                  (cc rfl (p_idxD (i := a - 1) (fun h => by simp at h; omega) (g1 rfl rfl) (od rfl id) (od rfl id))
                  (cc rfl (p_ldD (g1 rfl rfl) (od rfl id))
                  (cc rfl (p_move (g1 rfl rfl) (od rfl (fun _ => rfl)))
                  (cc rfl (p_move (g1 rfl rfl) (od rfl (fun _ => rfl)))
                  (cc rfl (p_idxD (i := pv) (fun h => by simp at h; omega) (g1 rfl rfl) (od rfl id) (od rfl id))
                  (cc rfl (p_ldD (g1 rfl rfl) (od rfl id))
                  (cc rfl (p_call 60 (g1 rfl rfl) (ox (od rfl id) (ox (od rfl id) ox0)) (fun _ _ => by kernel_rfl) f60)
                  (cc rfl (p_not (g1 rfl rfl) (od rfl id))
                  (cc rfl (p_and g0 (od rfl id) (od rfl id)) cn))))))))))))))) fun a120 w120 b120 s120 => ?_
              have z120 := z119.below b120
              have hD := hD.below b120
              have s120 := s120.more 0 (y := .val (slD g n cap)) (s120.get 0 rfl).1
              refine s120.cond 87 rfl (fun h87 => ?_) (fun h87 => ?_)
              · -- true
                have h2 := h87
                rw [Bool.and_eq_true, Bool.not_eq_true'] at h2
                obtain ⟨h3, hnl⟩ := h2
                have ha0 : 0 < a := by have h4 := of_decide_eq_true h3; (try dsimp only at h4); omega
                refine wp_seq ?_
                refine wp_region_lit ?_
                refine with_st (s120.keep (sc 0 rfl (sc 1 rfl (sc 2 rfl (sc 3 rfl (sc 8 rfl (sc 9 rfl (sc 10 rfl (sc 11 rfl (sc 12 rfl (sc 72 rfl (sc 73 rfl (sc 74 rfl (sc 75 rfl (sc 76 rfl (sc 77 rfl (sc 78 rfl (sc 79 rfl (sc 80 rfl (sc 81 rfl (sc 82 rfl (sc 83 rfl (sc 84 rfl (sc 85 rfl (sc 86 rfl (sc 87 rfl sn)))))))))))))))))))))))))) fun s120 => ?_
                refine chainK 4 (cc rfl (p_move g0 (od rfl id))
                    (cc rfl (p_move g0 (od rfl id))
                    (cc rfl (p_move g0 (od rfl id))
                    (cc rfl (p_move g0 (od rfl id)) cn)))) (by kernel_rfl) s120 fun a121 w121 b121 s121 => ?_
                have z121 := z120.below b121
                have hD := hD.below b121
                show wpList _ _ _ (_ :: _) _ _
                refine callR (R := fun v w' => ∃ t : Nat × Array Int, partitionEqual ltInt d4 a b pv = t ∧ v = .int .i64 (t.1 : Int) ∧ RowD w' g cap n t.2 ∧ OnlyB (fun i => i = g) w121 w') [.tmp 88, .tmp 89, .tmp 90, .tmp 91] [slD g n cap, .int .i64 (a : Int), .int .i64 (b : Int), .int .i64 (pv : Int)] s121 (by simp [Region.wanted]) (fun _ _ => by kernel_rfl) rfl (by decide) (ac (s121.get 88 rfl) (ac (s121.get 89 rfl) (ac (s121.get 90 rfl) (ac (s121.get 91 rfl) an0)))) (cPeq hD hn hp1 hp2 hbn) (vv 0 rfl (vv 1 rfl (vv 2 rfl (vv 3 rfl (vv 8 rfl (vv 9 rfl (vv 10 rfl (vv 11 rfl (vv 12 rfl vn))))))))) fun v122 a122 w122 hR122 s122 => ?_
                obtain ⟨⟨mid, d5⟩, ht5, e122, hD0, hz122⟩ := hR122
                have z122 := z121.trans hz122 (fun _ _ h => h)
                have s122 := s122.more 92 (y := .int .i64 (mid : Int)) ((s122.get 92 rfl).trans e122)
                obtain ⟨hm1, hm2, _, hBl5, hr5⟩ := Go.Sort.round_eq Go.Sort.swo_ltInt (Go.Sort.partitionEqual_holds _) ha0 hp1 hp2 (by rw [hD.size]; exact hbn) hBl hnl ht5
                replace hD0 : RowD _ g cap n d5 := hD0
                have hD := hD0
                refine chainK 1 (cc rfl (p_assign g0 (od rfl id)) cn) (by kernel_rfl) s122 fun a123 w123 b123 s123 => ?_
                have z123 := z122.below b123
                have hD := hD.below b123
                refine wpList_done ?_
                refine wp_seq ?_
                refine flowT (s123.keep (sc 0 rfl (sc 1 rfl (sc 2 rfl (sc 3 rfl (sc 8 rfl (sc 9 rfl (sc 10 rfl (sc 11 rfl (sc 12 rfl (sc 13 rfl (sc 92 rfl sn)))))))))))) (by kernel_rfl) (cc rfl (p_move g0 (od rfl id))
                    (cc rfl (p_assign g0 (od rfl id)) cn)) fun a124 w124 b124 s124 => ?_
                have z124 := z123.below b124
                have hD := hD.below b124
                refine wp_exit ?_
                exact ⟨b - mid, by omega, mid, b, lim2, wb, wp, d5, rfl, hm2, hbn, by omega, hBl5, fun D h => hrest D (hr5 D h.1 h.2), hD, z124, s124.to _ ⟨rfl, rfl, rfl, rfl, rfl, rfl, True.intro⟩⟩
              · -- false
                refine wp_skip ?_
                refine wp_seq ?_
                refine wp_region_lit ?_
                refine with_st (s120.keep (sc 0 rfl (sc 1 rfl (sc 2 rfl (sc 3 rfl (sc 8 rfl (sc 9 rfl (sc 10 rfl (sc 11 rfl (sc 12 rfl (sc 72 rfl (sc 73 rfl (sc 74 rfl (sc 75 rfl (sc 76 rfl (sc 77 rfl (sc 78 rfl (sc 79 rfl (sc 80 rfl (sc 81 rfl (sc 82 rfl (sc 83 rfl (sc 84 rfl (sc 85 rfl (sc 86 rfl (sc 87 rfl sn)))))))))))))))))))))))))) fun s120 => ?_
                refine chainK 4 (cc rfl (p_move g0 (od rfl id))
                    (cc rfl (p_move g0 (od rfl id))
                    (cc rfl (p_move g0 (od rfl id))
                    (cc rfl (p_move g0 (od rfl id)) cn)))) (by kernel_rfl) s120 fun a125 w125 b125 s125 => ?_
                have z125 := z120.below b125
                have hD := hD.below b125
                show wpList _ _ _ (_ :: _) _ _
                refine callR (R := fun v w' => ∃ t : Nat × Bool × Array Int, partition ltInt d4 a b pv = t ∧ v = .tuple #[.int .i64 (t.1 : Int), .bool t.2.1] ∧ RowD w' g cap n t.2.2 ∧ OnlyB (fun i => i = g) w125 w') [.tmp 95, .tmp 96, .tmp 97, .tmp 98] [slD g n cap, .int .i64 (a : Int), .int .i64 (b : Int), .int .i64 (pv : Int)] s125 (by simp [Region.wanted]) (fun _ _ => by kernel_rfl) rfl (by decide) (ac (s125.get 95 rfl) (ac (s125.get 96 rfl) (ac (s125.get 97 rfl) (ac (s125.get 98 rfl) an0)))) (cPar hD hn hp1 hp2 hbn) (vv 0 rfl (vv 1 rfl (vv 2 rfl (vv 3 rfl (vv 8 rfl (vv 9 rfl (vv 10 rfl (vv 11 rfl (vv 12 rfl vn))))))))) fun v126 a126 w126 hR126 s126 => ?_
                obtain ⟨⟨mid, ap, d5⟩, ht5, e126, hD0, hz126⟩ := hR126
                have z126 := z125.trans hz126 (fun _ _ h => h)
                have s126 := s126.more 99 (y := .two (.int .i64 (mid : Int)) (.bool ap)) (at_two ((s126.get 99 rfl).trans e126))
                obtain ⟨hm1, hm2, _, hBll, hBlr, hrl, hrr⟩ := Go.Sort.round_part Go.Sort.swo_ltInt (Go.Sort.partition_holds _) hp1 hp2 (by rw [hD.size]; exact hbn) hBl ht5
                replace hD0 : RowD _ g cap n d5 := hD0
                have hD := hD0
                refine chainK 5 (cc rfl (p_move g0 (od rfl id))
                    (cc rfl (p_ext0 g0 (od rfl id))
                    (cc rfl (p_ext1 g0 (od rfl id))
                    (cc rfl (p_assign g0 (od rfl id))
                    (cc rfl (p_assign g0 (od rfl id)) cn))))) (by kernel_rfl) s126 fun a127 w127 b127 s127 => ?_
                have z127 := z126.below b127
                have hD := hD.below b127
                refine wpList_done ?_
                refine wp_seq ?_
                refine flowT (s127.keep (sc 0 rfl (sc 1 rfl (sc 2 rfl (sc 3 rfl (sc 8 rfl (sc 9 rfl (sc 10 rfl (sc 11 rfl (sc 12 rfl (sc 14 rfl (sc 15 rfl (sc 94 rfl (sc 99 rfl (sc 100 rfl (sc 101 rfl sn)))))))))))))))) (by kernel_rfl) (cc rfl (p_move g0 (od rfl id))
                    (cc rfl (p_assign g0 (od rfl id)) cn)) fun a128 w128 b128 s128 => ?_
                have z128 := z127.below b128
                have hD := hD.below b128
                refine wp_seq ?_
                refine flowC mixed (s128.keep (sc 0 rfl (sc 1 rfl (sc 2 rfl (sc 3 rfl (sc 8 rfl (sc 9 rfl (sc 10 rfl (sc 11 rfl (sc 12 rfl (sc 14 rfl (sc 15 rfl (sc 94 rfl (sc 99 rfl (sc 100 rfl (sc 101 rfl (sc 102 rfl sn))))))))))))))))) (by kernel_rfl) (by kernel_rfl) (cc rfl (p_move g0 (od rfl id))
                    (cc rfl (p_move g0 (od rfl id))
                    (cc rfl (p_binC (m' := ((mid - a : Nat) : Int)) (fun _ => by rw [IntKind.wrap_i64]; omega) g0 (od rfl id) (od rfl id) b_sub_3)
                    (cc rfl (p_move g0 (od rfl id))
                    (cc rfl (p_move g0 (od rfl id))
                    (cc rfl (p_binC (m' := ((b - mid : Nat) : Int)) (fun _ => by rw [IntKind.wrap_i64]; omega) g0 (od rfl id) (od rfl id) b_sub_3)
                    (cc rfl (p_assign g0 (od rfl id))
                    (cc rfl (p_assign g0 (od rfl id)) cn)))))))) fun a129 w129 b129 s129 => ?_
                have z129 := z128.below b129
                have hD := hD.below b129
                refine wp_seq ?_
                refine flowC mixed (s129.keep (sc 0 rfl (sc 1 rfl (sc 2 rfl (sc 3 rfl (sc 8 rfl (sc 9 rfl (sc 10 rfl (sc 11 rfl (sc 12 rfl (sc 14 rfl (sc 15 rfl (sc 16 rfl (sc 17 rfl (sc 94 rfl (sc 99 rfl (sc 100 rfl (sc 101 rfl (sc 102 rfl (sc 103 rfl (sc 104 rfl (sc 105 rfl (sc 106 rfl (sc 107 rfl (sc 108 rfl sn))))))))))))))))))))))))) (by kernel_rfl) (by kernel_rfl) (cc rfl (p_move g0 (od rfl id))
                    (cc rfl (p_binC (m' := (((b - a) / 8 : Nat) : Int)) (fun _ => rfl) g0 (od rfl id) (oc _) (b_quo_3 (a := (b - a)) (b := 8) (by omega) (by omega)))
                    (cc rfl (p_assign g0 (od rfl id)) cn))) fun a130 w130 b130 s130 => ?_
                have z130 := z129.below b130
                have hD := hD.below b130
                refine wp_seq ?_
                refine flowC mixed (s130.keep (sc 0 rfl (sc 1 rfl (sc 2 rfl (sc 3 rfl (sc 8 rfl (sc 9 rfl (sc 10 rfl (sc 11 rfl (sc 12 rfl (sc 14 rfl (sc 15 rfl (sc 16 rfl (sc 17 rfl (sc 18 rfl (sc 94 rfl (sc 99 rfl (sc 100 rfl (sc 101 rfl (sc 102 rfl (sc 103 rfl (sc 104 rfl (sc 105 rfl (sc 106 rfl (sc 107 rfl (sc 108 rfl (sc 109 rfl (sc 110 rfl sn)))))))))))))))))))))))))))) (by kernel_rfl) (by kernel_rfl) (cc rfl (p_move g0 (od rfl id))
                    (cc rfl (p_move g0 (od rfl id))
                    (cc rfl (p_bin g0 (od rfl id) (od rfl id) b_lss_3) cn))) fun a131 w131 b131 s131 => ?_
                have z131 := z130.below b131
                have hD := hD.below b131
                refine s131.cond 113 rfl (fun h113 => ?_) (fun h113 => ?_)
                · -- true
                  refine wp_seq ?_
                  refine flowT (s131.keep (sc 0 rfl (sc 1 rfl (sc 2 rfl (sc 3 rfl (sc 8 rfl (sc 9 rfl (sc 10 rfl (sc 11 rfl (sc 12 rfl (sc 14 rfl (sc 15 rfl (sc 16 rfl (sc 17 rfl (sc 18 rfl (sc 94 rfl (sc 99 rfl (sc 100 rfl (sc 101 rfl (sc 102 rfl (sc 103 rfl (sc 104 rfl (sc 105 rfl (sc 106 rfl (sc 107 rfl (sc 108 rfl (sc 109 rfl (sc 110 rfl (sc 111 rfl (sc 112 rfl (sc 113 rfl sn))))))))))))))))))))))))))))))) (by kernel_rfl) (cc rfl (p_move g0 (od rfl id))
                      (cc rfl (p_move g0 (od rfl id))
                      (cc rfl (p_bin g0 (od rfl id) (od rfl id) b_geq_3)
                      (cc rfl (p_assign g0 (od rfl id)) cn)))) fun a132 w132 b132 s132 => ?_
                  have z132 := z131.below b132
                  have hD := hD.below b132
                  refine wp_seq ?_
                  refine wp_region_lit ?_
                  refine with_st (s132.keep (sc 0 rfl (sc 1 rfl (sc 2 rfl (sc 3 rfl (sc 8 rfl (sc 9 rfl (sc 10 rfl (sc 11 rfl (sc 12 rfl (sc 14 rfl (sc 15 rfl (sc 16 rfl (sc 17 rfl (sc 18 rfl (sc 94 rfl (sc 99 rfl (sc 100 rfl (sc 101 rfl (sc 102 rfl (sc 103 rfl (sc 104 rfl (sc 105 rfl (sc 106 rfl (sc 107 rfl (sc 108 rfl (sc 109 rfl (sc 110 rfl (sc 111 rfl (sc 112 rfl (sc 113 rfl (sc 114 rfl (sc 115 rfl (sc 116 rfl sn)))))))))))))))))))))))))))))))))) fun s132 => ?_
                  refine chainK 4 (cc rfl (p_move g0 (od rfl id))
                      (cc rfl (p_move g0 (od rfl id))
                      (cc rfl (p_move g0 (od rfl id))
                      (cc rfl (p_move g0 (od rfl id)) cn)))) (by kernel_rfl) s132 fun a133 w133 b133 s133 => ?_
                  have z133 := z132.below b133
                  have hD := hD.below b133
                  show wpList _ _ _ (_ :: _) _ _
                  refine callN (R := fun w' => ∃ D, Goal (a) (mid) d5 D ∧ RowD w' g cap n D ∧ OnlyB (fun i => i = g) w133 w') [.tmp 117, .tmp 118, .tmp 119, .tmp 120] [slD g n cap, .int .i64 ((a : Nat) : Int), .int .i64 ((mid : Nat) : Int), .int .i64 lim2] s133 (by simp [Region.wanted]) (fun _ _ => by kernel_rfl) rfl (by decide) (ac (s133.get 117 rfl) (ac (s133.get 118 rfl) (ac (s133.get 119 rfl) (ac (s133.get 120 rfl) an0)))) (ih _ (a) (mid) d5 lim2 (by omega) hD (by omega) (by omega) hBll) (vv 0 rfl (vv 1 rfl (vv 2 rfl (vv 3 rfl (vv 8 rfl (vv 9 rfl (vv 10 rfl (vv 11 rfl (vv 12 rfl (vv 14 rfl (vv 15 rfl (vv 16 rfl (vv 17 rfl (vv 18 rfl vn)))))))))))))) fun v134 a134 w134 hR134 s134 => ?_
                  obtain ⟨L, ⟨hL1, hL2⟩, hD0, hz134⟩ := hR134
                  have z134 := z133.trans hz134 (fun _ _ h => h)
                  obtain ⟨hBn, hrn⟩ := hrl L hL1 hL2
                  have hD := hD0
                  refine wpList_done ?_
                  refine flowT (s134.keep (sc 0 rfl (sc 1 rfl (sc 2 rfl (sc 3 rfl (sc 8 rfl (sc 9 rfl (sc 10 rfl (sc 11 rfl (sc 12 rfl (sc 14 rfl (sc 15 rfl (sc 16 rfl (sc 17 rfl (sc 18 rfl sn))))))))))))))) (by kernel_rfl) (cc rfl (p_move g0 (od rfl id))
                      (cc rfl (p_binC (m' := ((mid + 1 : Nat) : Int)) (fun _ => by rw [IntKind.wrap_i64]; omega) g0 (od rfl id) (oc _) b_add_3)
                      (cc rfl (p_assign g0 (od rfl id)) cn))) fun a135 w135 b135 s135 => ?_
                  have z135 := z134.below b135
                  have hD := hD.below b135
                  exact ⟨b - (mid + 1), by omega, mid + 1, b, lim2, _, ap, L, rfl, by omega, hbn, by omega, hBn, fun D h => hrest D (hrn D h.1 h.2), hD, z135, s135.to _ ⟨rfl, rfl, rfl, rfl, rfl, rfl, True.intro⟩⟩
                · -- false
                  refine wp_seq ?_
                  refine flowT (s131.keep (sc 0 rfl (sc 1 rfl (sc 2 rfl (sc 3 rfl (sc 8 rfl (sc 9 rfl (sc 10 rfl (sc 11 rfl (sc 12 rfl (sc 14 rfl (sc 15 rfl (sc 16 rfl (sc 17 rfl (sc 18 rfl (sc 94 rfl (sc 99 rfl (sc 100 rfl (sc 101 rfl (sc 102 rfl (sc 103 rfl (sc 104 rfl (sc 105 rfl (sc 106 rfl (sc 107 rfl (sc 108 rfl (sc 109 rfl (sc 110 rfl (sc 111 rfl (sc 112 rfl (sc 113 rfl sn))))))))))))))))))))))))))))))) (by kernel_rfl) (cc rfl (p_move g0 (od rfl id))
                      (cc rfl (p_move g0 (od rfl id))
                      (cc rfl (p_bin g0 (od rfl id) (od rfl id) b_geq_3)
                      (cc rfl (p_assign g0 (od rfl id)) cn)))) fun a136 w136 b136 s136 => ?_
                  have z136 := z131.below b136
                  have hD := hD.below b136
                  refine wp_seq ?_
                  refine wp_region_lit ?_
                  refine with_st (s136.keep (sc 0 rfl (sc 1 rfl (sc 2 rfl (sc 3 rfl (sc 8 rfl (sc 9 rfl (sc 10 rfl (sc 11 rfl (sc 12 rfl (sc 14 rfl (sc 15 rfl (sc 16 rfl (sc 17 rfl (sc 18 rfl (sc 94 rfl (sc 99 rfl (sc 100 rfl (sc 101 rfl (sc 102 rfl (sc 103 rfl (sc 104 rfl (sc 105 rfl (sc 106 rfl (sc 107 rfl (sc 108 rfl (sc 109 rfl (sc 110 rfl (sc 111 rfl (sc 112 rfl (sc 113 rfl (sc 124 rfl (sc 125 rfl (sc 126 rfl sn)))))))))))))))))))))))))))))))))) fun s136 => ?_
                  refine chainK 5 (cc rfl (p_move g0 (od rfl id))
                      (cc rfl (p_move g0 (od rfl id))
                      (cc rfl (p_binC (m' := ((mid + 1 : Nat) : Int)) (fun _ => by rw [IntKind.wrap_i64]; omega) g0 (od rfl id) (oc _) b_add_3)
                      (cc rfl (p_move g0 (od rfl id))
                      (cc rfl (p_move g0 (od rfl id)) cn))))) (by kernel_rfl) s136 fun a137 w137 b137 s137 => ?_
                  have z137 := z136.below b137
                  have hD := hD.below b137
                  show wpList _ _ _ (_ :: _) _ _
                  refine callN (R := fun w' => ∃ D, Goal (mid + 1) (b) d5 D ∧ RowD w' g cap n D ∧ OnlyB (fun i => i = g) w137 w') [.tmp 127, .tmp 129, .tmp 130, .tmp 131] [slD g n cap, .int .i64 ((mid + 1 : Nat) : Int), .int .i64 ((b : Nat) : Int), .int .i64 lim2] s137 (by simp [Region.wanted]) (fun _ _ => by kernel_rfl) rfl (by decide) (ac (s137.get 127 rfl) (ac (s137.get 129 rfl) (ac (s137.get 130 rfl) (ac (s137.get 131 rfl) an0)))) (ih _ (mid + 1) (b) d5 lim2 (by omega) hD (by omega) (by omega) hBlr) (vv 0 rfl (vv 1 rfl (vv 2 rfl (vv 3 rfl (vv 8 rfl (vv 9 rfl (vv 10 rfl (vv 11 rfl (vv 12 rfl (vv 14 rfl (vv 15 rfl (vv 16 rfl (vv 17 rfl (vv 18 rfl vn)))))))))))))) fun v138 a138 w138 hR138 s138 => ?_
                  obtain ⟨L, ⟨hL1, hL2⟩, hD0, hz138⟩ := hR138
                  have z138 := z137.trans hz138 (fun _ _ h => h)
                  obtain ⟨hBn, hrn⟩ := hrr L hL1 hL2
                  have hD := hD0
                  refine wpList_done ?_
                  refine flowT (s138.keep (sc 0 rfl (sc 1 rfl (sc 2 rfl (sc 3 rfl (sc 8 rfl (sc 9 rfl (sc 10 rfl (sc 11 rfl (sc 12 rfl (sc 14 rfl (sc 15 rfl (sc 16 rfl (sc 17 rfl (sc 18 rfl sn))))))))))))))) (by kernel_rfl) (cc rfl (p_move g0 (od rfl id))
                      (cc rfl (p_assign g0 (od rfl id)) cn)) fun a139 w139 b139 s139 => ?_
                  have z139 := z138.below b139
                  have hD := hD.below b139
                  exact ⟨mid - a, by omega, a, mid, lim2, _, ap, L, rfl, by omega, by omega, by omega, hBn, fun D h => hrest D (hrn D h.1 h.2), hD, z139, s139.to _ ⟨rfl, rfl, rfl, rfl, rfl, rfl, True.intro⟩⟩
          · -- false
            obtain ⟨d4, rfl⟩ : ∃ d4, d4 = d3 := ⟨_, rfl⟩
            refine wp_skip ?_
            refine wp_seq ?_
            refine wp_seq ?_
            have s117 := s117.more 0 (y := .rowD g n cap d4) (at_rowD hD (s117.get 0 rfl))
            refine flowC mixed (s117.keep (sc 0 rfl (sc 1 rfl (sc 2 rfl (sc 3 rfl (sc 8 rfl (sc 9 rfl (sc 10 rfl (sc 11 rfl (sc 12 rfl (sc 55 rfl (sc 56 rfl (sc 57 rfl (sc 58 rfl (sc 59 rfl (sc 60 rfl (sc 61 rfl (sc 62 rfl (sc 63 rfl (sc 64 rfl (sc 65 rfl (sc 66 rfl (sc 67 rfl (sc 68 rfl sn)))))))))))))))))))))))) (by kernel_rfl) (by kernel_rfl) (cc rfl (p_move g0 (od rfl id))
                (cc rfl (p_bin g0 (od rfl id) (oc _) b_gtr_3)
                (cc rfl (p_move g0 (od rfl id))
                (cc rfl (p_move (g1 rfl rfl) (od rfl (fun _ => rfl)))
                (cc rfl (p_move (g1 rfl rfl) (od rfl (fun _ => rfl)))
                (cc rfl (p_binC (m' := ((a - 1 : Nat) : Int)) (fun h => by simp at h; rw [IntKind.wrap_i64]; omega) (g1 rfl rfl) (od rfl id) (oc _) b_sub_3)
                (cc rfl (p_idxD (i := a - 1) (fun h => by simp at h; omega) (g1 rfl rfl) (od rfl id) (od rfl id))
                (cc rfl (p_ldD (g1 rfl rfl) (od rfl id))
                (cc rfl (p_move (g1 rfl rfl) (od rfl (fun _ => rfl)))
                (cc rfl (p_move (g1 rfl rfl) (od rfl (fun _ => rfl)))
                (cc rfl (p_idxD (i := pv) (fun h => by simp at h; omega) (g1 rfl rfl) (od rfl id) (od rfl id))
                (cc rfl (p_ldD (g1 rfl rfl) (od rfl id))
                (cc rfl (p_call 60 (g1 rfl rfl) (ox (od rfl id) (ox (od rfl id) ox0)) (fun _ _ => by kernel_rfl) f60)
                (cc rfl (p_not (g1 rfl rfl) (od rfl id))
                (cc rfl (p_and g0 (od rfl id) (od rfl id)) cn))))))))))))))) fun a140 w140 b140 s140 => ?_
            have z140 := z117.below b140
            have hD := hD.below b140
            have s140 := s140.more 0 (y := .val (slD g n cap)) (s140.get 0 rfl).1
            refine s140.cond 87 rfl (fun h87 => ?_) (fun h87 => ?_)
            · -- true
              have h2 := h87
              rw [Bool.and_eq_true, Bool.not_eq_true'] at h2
              obtain ⟨h3, hnl⟩ := h2
              have ha0 : 0 < a := by have h4 := of_decide_eq_true h3; (try dsimp only at h4); omega
              refine wp_seq ?_
              refine wp_region_lit ?_
              refine with_st (s140.keep (sc 0 rfl (sc 1 rfl (sc 2 rfl (sc 3 rfl (sc 8 rfl (sc 9 rfl (sc 10 rfl (sc 11 rfl (sc 12 rfl (sc 55 rfl (sc 56 rfl (sc 57 rfl (sc 58 rfl (sc 59 rfl (sc 60 rfl (sc 61 rfl (sc 62 rfl (sc 63 rfl (sc 64 rfl (sc 65 rfl (sc 66 rfl (sc 67 rfl (sc 68 rfl (sc 73 rfl (sc 74 rfl (sc 75 rfl (sc 76 rfl (sc 77 rfl (sc 78 rfl (sc 79 rfl (sc 80 rfl (sc 81 rfl (sc 82 rfl (sc 83 rfl (sc 84 rfl (sc 85 rfl (sc 86 rfl (sc 87 rfl sn))))))))))))))))))))))))))))))))))))))) fun s140 => ?_
              refine chainK 4 (cc rfl (p_move g0 (od rfl id))
                  (cc rfl (p_move g0 (od rfl id))
                  (cc rfl (p_move g0 (od rfl id))
                  (cc rfl (p_move g0 (od rfl id)) cn)))) (by kernel_rfl) s140 fun a141 w141 b141 s141 => ?_
              have z141 := z140.below b141
              have hD := hD.below b141
              show wpList _ _ _ (_ :: _) _ _
              refine callR (R := fun v w' => ∃ t : Nat × Array Int, partitionEqual ltInt d4 a b pv = t ∧ v = .int .i64 (t.1 : Int) ∧ RowD w' g cap n t.2 ∧ OnlyB (fun i => i = g) w141 w') [.tmp 88, .tmp 89, .tmp 90, .tmp 91] [slD g n cap, .int .i64 (a : Int), .int .i64 (b : Int), .int .i64 (pv : Int)] s141 (by simp [Region.wanted]) (fun _ _ => by kernel_rfl) rfl (by decide) (ac (s141.get 88 rfl) (ac (s141.get 89 rfl) (ac (s141.get 90 rfl) (ac (s141.get 91 rfl) an0)))) (cPeq hD hn hp1 hp2 hbn) (vv 0 rfl (vv 1 rfl (vv 2 rfl (vv 3 rfl (vv 8 rfl (vv 9 rfl (vv 10 rfl (vv 11 rfl (vv 12 rfl vn))))))))) fun v142 a142 w142 hR142 s142 => ?_
              obtain ⟨⟨mid, d5⟩, ht5, e142, hD0, hz142⟩ := hR142
              have z142 := z141.trans hz142 (fun _ _ h => h)
              have s142 := s142.more 92 (y := .int .i64 (mid : Int)) ((s142.get 92 rfl).trans e142)
              obtain ⟨hm1, hm2, _, hBl5, hr5⟩ := Go.Sort.round_eq Go.Sort.swo_ltInt (Go.Sort.partitionEqual_holds _) ha0 hp1 hp2 (by rw [hD.size]; exact hbn) hBl hnl ht5
              replace hD0 : RowD _ g cap n d5 := hD0
              have hD := hD0
              refine chainK 1 (cc rfl (p_assign g0 (od rfl id)) cn) (by kernel_rfl) s142 fun a143 w143 b143 s143 => ?_
              have z143 := z142.below b143
              have hD := hD.below b143
              refine wpList_done ?_
              refine wp_seq ?_
              refine flowT (s143.keep (sc 0 rfl (sc 1 rfl (sc 2 rfl (sc 3 rfl (sc 8 rfl (sc 9 rfl (sc 10 rfl (sc 11 rfl (sc 12 rfl (sc 13 rfl (sc 92 rfl sn)))))))))))) (by kernel_rfl) (cc rfl (p_move g0 (od rfl id))
                  (cc rfl (p_assign g0 (od rfl id)) cn)) fun a144 w144 b144 s144 => ?_
              have z144 := z143.below b144
              have hD := hD.below b144
              refine wp_exit ?_
              exact ⟨b - mid, by omega, mid, b, lim2, wb, wp, d5, rfl, hm2, hbn, by omega, hBl5, fun D h => hrest D (hr5 D h.1 h.2), hD, z144, s144.to _ ⟨rfl, rfl, rfl, rfl, rfl, rfl, True.intro⟩⟩
            · -- false
              refine wp_skip ?_
              refine wp_seq ?_
              refine wp_region_lit ?_
              refine with_st (s140.keep (sc 0 rfl (sc 1 rfl (sc 2 rfl (sc 3 rfl (sc 8 rfl (sc 9 rfl (sc 10 rfl (sc 11 rfl (sc 12 rfl (sc 55 rfl (sc 56 rfl (sc 57 rfl (sc 58 rfl (sc 59 rfl (sc 60 rfl (sc 61 rfl (sc 62 rfl (sc 63 rfl (sc 64 rfl (sc 65 rfl (sc 66 rfl (sc 67 rfl (sc 68 rfl (sc 73 rfl (sc 74 rfl (sc 75 rfl (sc 76 rfl (sc 77 rfl (sc 78 rfl (sc 79 rfl (sc 80 rfl (sc 81 rfl (sc 82 rfl (sc 83 rfl (sc 84 rfl (sc 85 rfl (sc 86 rfl (sc 87 rfl sn))))))))))))))))))))))))))))))))))))))) fun s140 => ?_
              refine chainK 4 (cc rfl (p_move g0 (od rfl id))
                  (cc rfl (p_move g0 (od rfl id))
                  (cc rfl (p_move g0 (od rfl id))
                  (cc rfl (p_move g0 (od rfl id)) cn)))) (by kernel_rfl) s140 fun a145 w145 b145 s145 => ?_
              have z145 := z140.below b145
              have hD := hD.below b145
              show wpList _ _ _ (_ :: _) _ _
              refine callR (R := fun v w' => ∃ t : Nat × Bool × Array Int, partition ltInt d4 a b pv = t ∧ v = .tuple #[.int .i64 (t.1 : Int), .bool t.2.1] ∧ RowD w' g cap n t.2.2 ∧ OnlyB (fun i => i = g) w145 w') [.tmp 95, .tmp 96, .tmp 97, .tmp 98] [slD g n cap, .int .i64 (a : Int), .int .i64 (b : Int), .int .i64 (pv : Int)] s145 (by simp [Region.wanted]) (fun _ _ => by kernel_rfl) rfl (by decide) (ac (s145.get 95 rfl) (ac (s145.get 96 rfl) (ac (s145.get 97 rfl) (ac (s145.get 98 rfl) an0)))) (cPar hD hn hp1 hp2 hbn) (vv 0 rfl (vv 1 rfl (vv 2 rfl (vv 3 rfl (vv 8 rfl (vv 9 rfl (vv 10 rfl (vv 11 rfl (vv 12 rfl vn))))))))) fun v146 a146 w146 hR146 s146 => ?_
              obtain ⟨⟨mid, ap, d5⟩, ht5, e146, hD0, hz146⟩ := hR146
              have z146 := z145.trans hz146 (fun _ _ h => h)
              have s146 := s146.more 99 (y := .two (.int .i64 (mid : Int)) (.bool ap)) (at_two ((s146.get 99 rfl).trans e146))
              obtain ⟨hm1, hm2, _, hBll, hBlr, hrl, hrr⟩ := Go.Sort.round_part Go.Sort.swo_ltInt (Go.Sort.partition_holds _) hp1 hp2 (by rw [hD.size]; exact hbn) hBl ht5
              replace hD0 : RowD _ g cap n d5 := hD0
              have hD := hD0
              refine chainK 5 (cc rfl (p_move g0 (od rfl id))
                  (cc rfl (p_ext0 g0 (od rfl id))
                  (cc rfl (p_ext1 g0 (od rfl id))
                  (cc rfl (p_assign g0 (od rfl id))
                  (cc rfl (p_assign g0 (od rfl id)) cn))))) (by kernel_rfl) s146 fun a147 w147 b147 s147 => ?_
              have z147 := z146.below b147
              have hD := hD.below b147
              refine wpList_done ?_
              refine wp_seq ?_
              refine flowT (s147.keep (sc 0 rfl (sc 1 rfl (sc 2 rfl (sc 3 rfl (sc 8 rfl (sc 9 rfl (sc 10 rfl (sc 11 rfl (sc 12 rfl (sc 14 rfl (sc 15 rfl (sc 94 rfl (sc 99 rfl (sc 100 rfl (sc 101 rfl sn)))))))))))))))) (by kernel_rfl) (cc rfl (p_move g0 (od rfl id))
                  (cc rfl (p_assign g0 (od rfl id)) cn)) fun a148 w148 b148 s148 => ?_
              have z148 := z147.below b148
              have hD := hD.below b148
              refine wp_seq ?_
              refine flowC mixed (s148.keep (sc 0 rfl (sc 1 rfl (sc 2 rfl (sc 3 rfl (sc 8 rfl (sc 9 rfl (sc 10 rfl (sc 11 rfl (sc 12 rfl (sc 14 rfl (sc 15 rfl (sc 94 rfl (sc 99 rfl (sc 100 rfl (sc 101 rfl (sc 102 rfl sn))))))))))))))))) (by kernel_rfl) (by kernel_rfl) (cc rfl (p_move g0 (od rfl id))
                  (cc rfl (p_move g0 (od rfl id))
                  (cc rfl (p_binC (m' := ((mid - a : Nat) : Int)) (fun _ => by rw [IntKind.wrap_i64]; omega) g0 (od rfl id) (od rfl id) b_sub_3)
                  (cc rfl (p_move g0 (od rfl id))
                  (cc rfl (p_move g0 (od rfl id))
                  (cc rfl (p_binC (m' := ((b - mid : Nat) : Int)) (fun _ => by rw [IntKind.wrap_i64]; omega) g0 (od rfl id) (od rfl id) b_sub_3)
                  (cc rfl (p_assign g0 (od rfl id))
                  (cc rfl (p_assign g0 (od rfl id)) cn)))))))) fun a149 w149 b149 s149 => ?_
              have z149 := z148.below b149
              have hD := hD.below b149
              refine wp_seq ?_
              refine flowC mixed (s149.keep (sc 0 rfl (sc 1 rfl (sc 2 rfl (sc 3 rfl (sc 8 rfl (sc 9 rfl (sc 10 rfl (sc 11 rfl (sc 12 rfl (sc 14 rfl (sc 15 rfl (sc 16 rfl (sc 17 rfl (sc 94 rfl (sc 99 rfl (sc 100 rfl (sc 101 rfl (sc 102 rfl (sc 103 rfl (sc 104 rfl (sc 105 rfl (sc 106 rfl (sc 107 rfl (sc 108 rfl sn))))))))))))))))))))))))) (by kernel_rfl) (by kernel_rfl) (cc rfl (p_move g0 (od rfl id))
                  (cc rfl (p_binC (m' := (((b - a) / 8 : Nat) : Int)) (fun _ => rfl) g0 (od rfl id) (oc _) (b_quo_3 (a := (b - a)) (b := 8) (by omega) (by omega)))
                  (cc rfl (p_assign g0 (od rfl id)) cn))) fun a150 w150 b150 s150 => ?_
              have z150 := z149.below b150
              have hD := hD.below b150
              refine wp_seq ?_
              refine flowC mixed (s150.keep (sc 0 rfl (sc 1 rfl (sc 2 rfl (sc 3 rfl (sc 8 rfl (sc 9 rfl (sc 10 rfl (sc 11 rfl (sc 12 rfl (sc 14 rfl (sc 15 rfl (sc 16 rfl (sc 17 rfl (sc 18 rfl (sc 94 rfl (sc 99 rfl (sc 100 rfl (sc 101 rfl (sc 102 rfl (sc 103 rfl (sc 104 rfl (sc 105 rfl (sc 106 rfl (sc 107 rfl (sc 108 rfl (sc 109 rfl (sc 110 rfl sn)))))))))))))))))))))))))))) (by kernel_rfl) (by kernel_rfl) (cc rfl (p_move g0 (od rfl id))
                  (cc rfl (p_move g0 (od rfl id))
                  (cc rfl (p_bin g0 (od rfl id) (od rfl id) b_lss_3) cn))) fun a151 w151 b151 s151 => ?_
              have z151 := z150.below b151
              have hD := hD.below b151
              refine s151.cond 113 rfl (fun h113 => ?_) (fun h113 => ?_)
              · -- true
                refine wp_seq ?_
                refine flowT (s151.keep (sc 0 rfl (sc 1 rfl (sc 2 rfl (sc 3 rfl (sc 8 rfl (sc 9 rfl (sc 10 rfl (sc 11 rfl (sc 12 rfl (sc 14 rfl (sc 15 rfl (sc 16 rfl (sc 17 rfl (sc 18 rfl (sc 94 rfl (sc 99 rfl (sc 100 rfl (sc 101 rfl (sc 102 rfl (sc 103 rfl (sc 104 rfl (sc 105 rfl (sc 106 rfl (sc 107 rfl (sc 108 rfl (sc 109 rfl (sc 110 rfl (sc 111 rfl (sc 112 rfl (sc 113 rfl sn))))))))))))))))))))))))))))))) (by kernel_rfl) (cc rfl (p_move g0 (od rfl id))
                    (cc rfl (p_move g0 (od rfl id))
                    (cc rfl (p_bin g0 (od rfl id) (od rfl id) b_geq_3)
                    (cc rfl (p_assign g0 (od rfl id)) cn)))) fun a152 w152 b152 s152 => ?_
                have z152 := z151.below b152
                have hD := hD.below b152
                refine wp_seq ?_
                refine wp_region_lit ?_
                refine with_st (s152.keep (sc 0 rfl (sc 1 rfl (sc 2 rfl (sc 3 rfl (sc 8 rfl (sc 9 rfl (sc 10 rfl (sc 11 rfl (sc 12 rfl (sc 14 rfl (sc 15 rfl (sc 16 rfl (sc 17 rfl (sc 18 rfl (sc 94 rfl (sc 99 rfl (sc 100 rfl (sc 101 rfl (sc 102 rfl (sc 103 rfl (sc 104 rfl (sc 105 rfl (sc 106 rfl (sc 107 rfl (sc 108 rfl (sc 109 rfl (sc 110 rfl (sc 111 rfl (sc 112 rfl (sc 113 rfl (sc 114 rfl (sc 115 rfl (sc 116 rfl sn)))))))))))))))))))))))))))))))))) fun s152 => ?_
                refine chainK 4 (cc rfl (p_move g0 (od rfl id))
                    (cc rfl (p_move g0 (od rfl id))
                    (cc rfl (p_move g0 (od rfl id))
                    (cc rfl (p_move g0 (od rfl id)) cn)))) (by kernel_rfl) s152 fun a153 w153 b153 s153 => ?_
                have z153 := z152.below b153
                have hD := hD.below b153
                show wpList _ _ _ (_ :: _) _ _
                refine callN (R := fun w' => ∃ D, Goal (a) (mid) d5 D ∧ RowD w' g cap n D ∧ OnlyB (fun i => i = g) w153 w') [.tmp 117, .tmp 118, .tmp 119, .tmp 120] [slD g n cap, .int .i64 ((a : Nat) : Int), .int .i64 ((mid : Nat) : Int), .int .i64 lim2] s153 (by simp [Region.wanted]) (fun _ _ => by kernel_rfl) rfl (by decide) (ac (s153.get 117 rfl) (ac (s153.get 118 rfl) (ac (s153.get 119 rfl) (ac (s153.get 120 rfl) an0)))) (ih _ (a) (mid) d5 lim2 (by omega) hD (by omega) (by omega) hBll) (vv 0 rfl (vv 1 rfl (vv 2 rfl (vv 3 rfl (vv 8 rfl (vv 9 rfl (vv 10 rfl (vv 11 rfl (vv 12 rfl (vv 14 rfl (vv 15 rfl (vv 16 rfl (vv 17 rfl (vv 18 rfl vn)))))))))))))) fun v154 a154 w154 hR154 s154 => ?_
                obtain ⟨L, ⟨hL1, hL2⟩, hD0, hz154⟩ := hR154
                have z154 := z153.trans hz154 (fun _ _ h => h)
                obtain ⟨hBn, hrn⟩ := hrl L hL1 hL2
                have hD := hD0
                refine wpList_done ?_
                refine flowT (s154.keep (sc 0 rfl (sc 1 rfl (sc 2 rfl (sc 3 rfl (sc 8 rfl (sc 9 rfl (sc 10 rfl (sc 11 rfl (sc 12 rfl (sc 14 rfl (sc 15 rfl (sc 16 rfl (sc 17 rfl (sc 18 rfl sn))))))))))))))) (by kernel_rfl) (cc rfl (p_move g0 (od rfl id))
                    (cc rfl (p_binC (m' := ((mid + 1 : Nat) : Int)) (fun _ => by rw [IntKind.wrap_i64]; omega) g0 (od rfl id) (oc _) b_add_3)
                    (cc rfl (p_assign g0 (od rfl id)) cn))) fun a155 w155 b155 s155 => ?_
                have z155 := z154.below b155
                have hD := hD.below b155
                exact ⟨b - (mid + 1), by omega, mid + 1, b, lim2, _, ap, L, rfl, by omega, hbn, by omega, hBn, fun D h => hrest D (hrn D h.1 h.2), hD, z155, s155.to _ ⟨rfl, rfl, rfl, rfl, rfl, rfl, True.intro⟩⟩
              · -- false
                refine wp_seq ?_
                refine flowT (s151.keep (sc 0 rfl (sc 1 rfl (sc 2 rfl (sc 3 rfl (sc 8 rfl (sc 9 rfl (sc 10 rfl (sc 11 rfl (sc 12 rfl (sc 14 rfl (sc 15 rfl (sc 16 rfl (sc 17 rfl (sc 18 rfl (sc 94 rfl (sc 99 rfl (sc 100 rfl (sc 101 rfl (sc 102 rfl (sc 103 rfl (sc 104 rfl (sc 105 rfl (sc 106 rfl (sc 107 rfl (sc 108 rfl (sc 109 rfl (sc 110 rfl (sc 111 rfl (sc 112 rfl (sc 113 rfl sn))))))))))))))))))))))))))))))) (by kernel_rfl) (cc rfl (p_move g0 (od rfl id))
                    (cc rfl (p_move g0 (od rfl id))
                    (cc rfl (p_bin g0 (od rfl id) (od rfl id) b_geq_3)
                    (cc rfl (p_assign g0 (od rfl id)) cn)))) fun a156 w156 b156 s156 => ?_
                have z156 := z151.below b156
                have hD := hD.below b156
                refine wp_seq ?_
                refine wp_region_lit ?_
                refine with_st (s156.keep (sc 0 rfl (sc 1 rfl (sc 2 rfl (sc 3 rfl (sc 8 rfl (sc 9 rfl (sc 10 rfl (sc 11 rfl (sc 12 rfl (sc 14 rfl (sc 15 rfl (sc 16 rfl (sc 17 rfl (sc 18 rfl (sc 94 rfl (sc 99 rfl (sc 100 rfl (sc 101 rfl (sc 102 rfl (sc 103 rfl (sc 104 rfl (sc 105 rfl (sc 106 rfl (sc 107 rfl (sc 108 rfl (sc 109 rfl (sc 110 rfl (sc 111 rfl (sc 112 rfl (sc 113 rfl (sc 124 rfl (sc 125 rfl (sc 126 rfl sn)))))))))))))))))))))))))))))))))) fun s156 => ?_
                refine chainK 5 (cc rfl (p_move g0 (od rfl id))
                    (cc rfl (p_move g0 (od rfl id))
                    (cc rfl (p_binC (m' := ((mid + 1 : Nat) : Int)) (fun _ => by rw [IntKind.wrap_i64]; omega) g0 (od rfl id) (oc _) b_add_3)
                    (cc rfl (p_move g0 (od rfl id))
                    (cc rfl (p_move g0 (od rfl id)) cn))))) (by kernel_rfl) s156 fun a157 w157 b157 s157 => ?_
                have z157 := z156.below b157
                have hD := hD.below b157
                show wpList _ _ _ (_ :: _) _ _
                refine callN (R := fun w' => ∃ D, Goal (mid + 1) (b) d5 D ∧ RowD w' g cap n D ∧ OnlyB (fun i => i = g) w157 w') [.tmp 127, .tmp 129, .tmp 130, .tmp 131] [slD g n cap, .int .i64 ((mid + 1 : Nat) : Int), .int .i64 ((b : Nat) : Int), .int .i64 lim2] s157 (by simp [Region.wanted]) (fun _ _ => by kernel_rfl) rfl (by decide) (ac (s157.get 127 rfl) (ac (s157.get 129 rfl) (ac (s157.get 130 rfl) (ac (s157.get 131 rfl) an0)))) (ih _ (mid + 1) (b) d5 lim2 (by omega) hD (by omega) (by omega) hBlr) (vv 0 rfl (vv 1 rfl (vv 2 rfl (vv 3 rfl (vv 8 rfl (vv 9 rfl (vv 10 rfl (vv 11 rfl (vv 12 rfl (vv 14 rfl (vv 15 rfl (vv 16 rfl (vv 17 rfl (vv 18 rfl vn)))))))))))))) fun v158 a158 w158 hR158 s158 => ?_
                obtain ⟨L, ⟨hL1, hL2⟩, hD0, hz158⟩ := hR158
                have z158 := z157.trans hz158 (fun _ _ h => h)
                obtain ⟨hBn, hrn⟩ := hrr L hL1 hL2
                have hD := hD0
                refine wpList_done ?_
                refine flowT (s158.keep (sc 0 rfl (sc 1 rfl (sc 2 rfl (sc 3 rfl (sc 8 rfl (sc 9 rfl (sc 10 rfl (sc 11 rfl (sc 12 rfl (sc 14 rfl (sc 15 rfl (sc 16 rfl (sc 17 rfl (sc 18 rfl sn))))))))))))))) (by kernel_rfl) (cc rfl (p_move g0 (od rfl id))
                    (cc rfl (p_assign g0 (od rfl id)) cn)) fun a159 w159 b159 s159 => ?_
                have z159 := z158.below b159
                have hD := hD.below b159
                exact ⟨mid - a, by omega, a, mid, lim2, _, ap, L, rfl, by omega, by omega, by omega, hBn, fun D h => hrest D (hrn D h.1 h.2), hD, z159, s159.to _ ⟨rfl, rfl, rfl, rfl, rfl, rfl, True.intro⟩⟩
        · -- false
          obtain ⟨d3, rfl⟩ : ∃ d3, d3 = d2 := ⟨_, rfl⟩
          obtain ⟨pv, rfl⟩ : ∃ pv, pv = p := ⟨_, rfl⟩
          obtain ⟨h1, rfl⟩ : ∃ h1, h1 = h0 := ⟨_, rfl⟩
          refine wp_skip ?_
          refine wp_seq ?_
          refine wp_seq ?_
          refine flowC mixed (s112.keep (sc 0 rfl (sc 1 rfl (sc 2 rfl (sc 3 rfl (sc 8 rfl (sc 9 rfl (sc 10 rfl (sc 11 rfl (sc 12 rfl (sc 42 rfl (sc 46 rfl (sc 47 rfl (sc 48 rfl (sc 49 rfl (sc 50 rfl sn)))))))))))))))) (by kernel_rfl) (by kernel_rfl) (cc rfl (p_move g0 (od rfl id))
              (cc rfl (p_move g0 (od rfl id))
              (cc rfl (p_move (g1 rfl rfl) (od rfl (fun _ => rfl)))
              (cc rfl (p_and g0 (od rfl id) (od rfl id))
              (cc rfl (p_move g0 (od rfl id))
              (cc rfl (p_move (g1 rfl rfl) (od rfl (fun _ => rfl)))
              (cc rfl (p_bin (g1 rfl rfl) (od rfl id) (oc _) b_eql_142)
              (cc rfl (p_and g0 (od rfl id) (od rfl id)) cn)))))))) fun a160 w160 b160 s160 => ?_
          have z160 := z112.below b160
          have hD := hD.below b160
          refine s160.cond 68 rfl (fun h68 => ?_) (fun h68 => ?_)
          · -- true
            refine wp_seq ?_
            refine wp_region_lit ?_
            refine with_st (s160.keep (sc 0 rfl (sc 1 rfl (sc 2 rfl (sc 3 rfl (sc 8 rfl (sc 9 rfl (sc 10 rfl (sc 11 rfl (sc 12 rfl (sc 42 rfl (sc 46 rfl (sc 47 rfl (sc 48 rfl (sc 49 rfl (sc 50 rfl (sc 61 rfl (sc 62 rfl (sc 63 rfl (sc 64 rfl (sc 65 rfl (sc 66 rfl (sc 67 rfl (sc 68 rfl sn)))))))))))))))))))))))) fun s160 => ?_
            refine chainK 3 (cc rfl (p_move g0 (od rfl id))
                (cc rfl (p_move g0 (od rfl id))
                (cc rfl (p_move g0 (od rfl id)) cn))) (by kernel_rfl) s160 fun a161 w161 b161 s161 => ?_
            have z161 := z160.below b161
            have hD := hD.below b161
            show wpList _ _ _ (_ :: _) _ _
            refine callR (R := fun v w' => ∃ t : Array Int × Bool, partialInsertionSort ltInt d3 a b = t ∧ v = .bool t.2 ∧ RowD w' g cap n t.1 ∧ OnlyB (fun i => i = g) w161 w') [.tmp 69, .tmp 70, .tmp 71] [slD g n cap, .int .i64 (a : Int), .int .i64 (b : Int)] s161 (by simp [Region.wanted]) (fun _ _ => by kernel_rfl) rfl (by decide) (ac (s161.get 69 rfl) (ac (s161.get 70 rfl) (ac (s161.get 71 rfl) an0))) (cPin hD hn (by omega) hbn) (vv 0 rfl (vv 1 rfl (vv 2 rfl (vv 3 rfl (vv 8 rfl (vv 9 rfl (vv 10 rfl (vv 11 rfl (vv 12 rfl vn))))))))) fun v162 a162 w162 hR162 s162 => ?_
            obtain ⟨⟨d4, b4⟩, ht4, e162, hD0, hz162⟩ := hR162
            have z162 := z161.trans hz162 (fun _ _ h => h)
            have s162 := s162.more 72 (y := .bool b4) ((s162.get 72 rfl).trans e162)
            have hpi := Go.Sort.partialInsertionSort_holds Go.Sort.swo_ltInt d3 a b (by omega) (by rw [hD.size]; exact hbn) hBl
            rw [ht4] at hpi
            replace hpi : PermIn a b d3 d4 ∧ (b4 = true → SortedIn ltInt a b d4) := hpi
            replace hD0 : RowD _ g cap n d4 := hD0
            refine wpList_done ?_
            refine s162.cond 72 rfl (fun h72 => ?_) (fun h72 => ?_)
            · -- true
              have hgo : Goal A B d d4 := hrest _ ⟨hpi.1, hpi.2 h72⟩
              have hD := hD0
              exact wp_ret (ret_n (fn := Try.f70) (R := fun w' => ∃ D, Goal A B d D ∧ RowD w' g cap n D ∧ OnlyB (fun i => i = g) w w') s162 rfl ⟨_, hgo, hD, z162⟩)
            · -- false
              have hBl := Go.Sort.Below.perm hBl (by rw [hD.size]; exact hbn) hpi.1
              have hrest := hrest.perm hpi.1
              have hD := hD0
              refine wp_skip ?_
              refine wp_seq ?_
              refine wp_seq ?_
              have s162 := s162.more 0 (y := .rowD g n cap d4) (at_rowD hD (s162.get 0 rfl))
              refine flowC mixed (s162.keep (sc 0 rfl (sc 1 rfl (sc 2 rfl (sc 3 rfl (sc 8 rfl (sc 9 rfl (sc 10 rfl (sc 11 rfl (sc 12 rfl (sc 72 rfl sn))))))))))) (by kernel_rfl) (by kernel_rfl) (cc rfl (p_move g0 (od rfl id))
                  (cc rfl (p_bin g0 (od rfl id) (oc _) b_gtr_3)
                  (cc rfl (p_move g0 (od rfl id))
                  (cc rfl (p_move (g1 rfl rfl) (od rfl (fun _ => rfl)))
                  (cc rfl (p_move (g1 rfl rfl) (od rfl (fun _ => rfl)))
                  (cc rfl (p_binC (m' := ((a - 1 : Nat) : Int)) (fun h => by simp at h; rw [IntKind.wrap_i64]; omega) (g1 rfl rfl) (od rfl id) (oc _) b_sub_3)
                  (cc rfl (p_idxD (i := a - 1) (fun h => by simp at h; omega) (g1 rfl rfl) (od rfl id) (od rfl id))
                  (cc rfl (p_ldD (g1 rfl rfl) (od rfl id))
                  (cc rfl (p_move (g1 rfl rfl) (od rfl (fun _ => rfl)))
                  (cc rfl (p_move (g1 rfl rfl) (od rfl (fun _ => rfl)))
                  (cc rfl (p_idxD (i := pv) (fun h => by simp at h; omega) (g1 rfl rfl) (od rfl id) (od rfl id))
                  (cc rfl (p_ldD (g1 rfl rfl) (od rfl id))
                  (cc rfl (p_call 60 (g1 rfl rfl) (ox (od rfl id) (ox (od rfl id) ox0)) (fun _ _ => by kernel_rfl) f60)
                  (cc rfl (p_not (g1 rfl rfl) (od rfl id))
                  (cc rfl (p_and g0 (od rfl id) (od rfl id)) cn))))))))))))))) fun a163 w163 b163 s163 => ?_
              have z163 := z162.below b163
              have hD := hD.below b163
              have s163 := s163.more 0 (y := .val (slD g n cap)) (s163.get 0 rfl).1
              refine s163.cond 87 rfl (fun h87 => ?_) (fun h87 => ?_)
              · -- true
                have h2 := h87
                rw [Bool.and_eq_true, Bool.not_eq_true'] at h2
                obtain ⟨h3, hnl⟩ := h2
                have ha0 : 0 < a := by have h4 := of_decide_eq_true h3; (try dsimp only at h4); omega
                refine wp_seq ?_
                refine wp_region_lit ?_
                refine with_st (s163.keep (sc 0 rfl (sc 1 rfl (sc 2 rfl (sc 3 rfl (sc 8 rfl (sc 9 rfl (sc 10 rfl (sc 11 rfl (sc 12 rfl (sc 72 rfl (sc 73 rfl (sc 74 rfl (sc 75 rfl (sc 76 rfl (sc 77 rfl (sc 78 rfl (sc 79 rfl (sc 80 rfl (sc 81 rfl (sc 82 rfl (sc 83 rfl (sc 84 rfl (sc 85 rfl (sc 86 rfl (sc 87 rfl sn)))))))))))))))))))))))))) fun s163 => ?_
                refine chainK 4 (cc rfl (p_move g0 (od rfl id))
                    (cc rfl (p_move g0 (od rfl id))
                    (cc rfl (p_move g0 (od rfl id))
                    (cc rfl (p_move g0 (od rfl id)) cn)))) (by kernel_rfl) s163 fun a164 w164 b164 s164 => ?_
                have z164 := z163.below b164
                have hD := hD.below b164
                show wpList _ _ _ (_ :: _) _ _
                refine callR (R := fun v w' => ∃ t : Nat × Array Int, partitionEqual ltInt d4 a b pv = t ∧ v = .int .i64 (t.1 : Int) ∧ RowD w' g cap n t.2 ∧ OnlyB (fun i => i = g) w164 w') [.tmp 88, .tmp 89, .tmp 90, .tmp 91] [slD g n cap, .int .i64 (a : Int), .int .i64 (b : Int), .int .i64 (pv : Int)] s164 (by simp [Region.wanted]) (fun _ _ => by kernel_rfl) rfl (by decide) (ac (s164.get 88 rfl) (ac (s164.get 89 rfl) (ac (s164.get 90 rfl) (ac (s164.get 91 rfl) an0)))) (cPeq hD hn hp1 hp2 hbn) (vv 0 rfl (vv 1 rfl (vv 2 rfl (vv 3 rfl (vv 8 rfl (vv 9 rfl (vv 10 rfl (vv 11 rfl (vv 12 rfl vn))))))))) fun v165 a165 w165 hR165 s165 => ?_
                obtain ⟨⟨mid, d5⟩, ht5, e165, hD0, hz165⟩ := hR165
                have z165 := z164.trans hz165 (fun _ _ h => h)
                have s165 := s165.more 92 (y := .int .i64 (mid : Int)) ((s165.get 92 rfl).trans e165)
                obtain ⟨hm1, hm2, _, hBl5, hr5⟩ := Go.Sort.round_eq Go.Sort.swo_ltInt (Go.Sort.partitionEqual_holds _) ha0 hp1 hp2 (by rw [hD.size]; exact hbn) hBl hnl ht5
                replace hD0 : RowD _ g cap n d5 := hD0
                have hD := hD0
                refine chainK 1 (cc rfl (p_assign g0 (od rfl id)) cn) (by kernel_rfl) s165 fun a166 w166 b166 s166 => ?_
                have z166 := z165.below b166
                have hD := hD.below b166
                refine wpList_done ?_
                refine wp_seq ?_
                refine flowT (s166.keep (sc 0 rfl (sc 1 rfl (sc 2 rfl (sc 3 rfl (sc 8 rfl (sc 9 rfl (sc 10 rfl (sc 11 rfl (sc 12 rfl (sc 13 rfl (sc 92 rfl sn)))))))))))) (by kernel_rfl) (cc rfl (p_move g0 (od rfl id))
                    (cc rfl (p_assign g0 (od rfl id)) cn)) fun a167 w167 b167 s167 => ?_
                have z167 := z166.below b167
                have hD := hD.below b167
                refine wp_exit ?_
                exact ⟨b - mid, by omega, mid, b, lim2, wb, wp, d5, rfl, hm2, hbn, by omega, hBl5, fun D h => hrest D (hr5 D h.1 h.2), hD, z167, s167.to _ ⟨rfl, rfl, rfl, rfl, rfl, rfl, True.intro⟩⟩
              · -- false
                refine wp_skip ?_
                refine wp_seq ?_
                refine wp_region_lit ?_
                refine with_st (s163.keep (sc 0 rfl (sc 1 rfl (sc 2 rfl (sc 3 rfl (sc 8 rfl (sc 9 rfl (sc 10 rfl (sc 11 rfl (sc 12 rfl (sc 72 rfl (sc 73 rfl (sc 74 rfl (sc 75 rfl (sc 76 rfl (sc 77 rfl (sc 78 rfl (sc 79 rfl (sc 80 rfl (sc 81 rfl (sc 82 rfl (sc 83 rfl (sc 84 rfl (sc 85 rfl (sc 86 rfl (sc 87 rfl sn)))))))))))))))))))))))))) fun s163 => ?_
                refine chainK 4 (cc rfl (p_move g0 (od rfl id))
                    (cc rfl (p_move g0 (od rfl id))
                    (cc rfl (p_move g0 (od rfl id))
                    (cc rfl (p_move g0 (od rfl id)) cn)))) (by kernel_rfl) s163 fun a168 w168 b168 s168 => ?_
                have z168 := z163.below b168
                have hD := hD.below b168
                show wpList _ _ _ (_ :: _) _ _
                refine callR (R := fun v w' => ∃ t : Nat × Bool × Array Int, partition ltInt d4 a b pv = t ∧ v = .tuple #[.int .i64 (t.1 : Int), .bool t.2.1] ∧ RowD w' g cap n t.2.2 ∧ OnlyB (fun i => i = g) w168 w') [.tmp 95, .tmp 96, .tmp 97, .tmp 98] [slD g n cap, .int .i64 (a : Int), .int .i64 (b : Int), .int .i64 (pv : Int)] s168 (by simp [Region.wanted]) (fun _ _ => by kernel_rfl) rfl (by decide) (ac (s168.get 95 rfl) (ac (s168.get 96 rfl) (ac (s168.get 97 rfl) (ac (s168.get 98 rfl) an0)))) (cPar hD hn hp1 hp2 hbn) (vv 0 rfl (vv 1 rfl (vv 2 rfl (vv 3 rfl (vv 8 rfl (vv 9 rfl (vv 10 rfl (vv 11 rfl (vv 12 rfl vn))))))))) fun v169 a169 w169 hR169 s169 => ?_
                obtain ⟨⟨mid, ap, d5⟩, ht5, e169, hD0, hz169⟩ := hR169
                have z169 := z168.trans hz169 (fun _ _ h => h)
                have s169 := s169.more 99 (y := .two (.int .i64 (mid : Int)) (.bool ap)) (at_two ((s169.get 99 rfl).trans e169))
                obtain ⟨hm1, hm2, _, hBll, hBlr, hrl, hrr⟩ := Go.Sort.round_part Go.Sort.swo_ltInt (Go.Sort.partition_holds _) hp1 hp2 (by rw [hD.size]; exact hbn) hBl ht5
                replace hD0 : RowD _ g cap n d5 := hD0
                have hD := hD0
                refine chainK 5 (cc rfl (p_move g0 (od rfl id))
                    (cc rfl (p_ext0 g0 (od rfl id))
                    (cc rfl (p_ext1 g0 (od rfl id))
                    (cc rfl (p_assign g0 (od rfl id))
                    (cc rfl (p_assign g0 (od rfl id)) cn))))) (by kernel_rfl) s169 fun a170 w170 b170 s170 => ?_
                have z170 := z169.below b170
                have hD := hD.below b170
                refine wpList_done ?_
                refine wp_seq ?_
                refine flowT (s170.keep (sc 0 rfl (sc 1 rfl (sc 2 rfl (sc 3 rfl (sc 8 rfl (sc 9 rfl (sc 10 rfl (sc 11 rfl (sc 12 rfl (sc 14 rfl (sc 15 rfl (sc 94 rfl (sc 99 rfl (sc 100 rfl (sc 101 rfl sn)))))))))))))))) (by kernel_rfl) (cc rfl (p_move g0 (od rfl id))
                    (cc rfl (p_assign g0 (od rfl id)) cn)) fun a171 w171 b171 s171 => ?_
                have z171 := z170.below b171
                have hD := hD.below b171
                refine wp_seq ?_
                refine flowC mixed (s171.keep (sc 0 rfl (sc 1 rfl (sc 2 rfl (sc 3 rfl (sc 8 rfl (sc 9 rfl (sc 10 rfl (sc 11 rfl (sc 12 rfl (sc 14 rfl (sc 15 rfl (sc 94 rfl (sc 99 rfl (sc 100 rfl (sc 101 rfl (sc 102 rfl sn))))))))))))))))) (by kernel_rfl) (by kernel_rfl) (cc rfl (p_move g0 (od rfl id))
                    (cc rfl (p_move g0 (od rfl id))
                    (cc rfl (p_binC (m' := ((mid - a : Nat) : Int)) (fun _ => by rw [IntKind.wrap_i64]; omega) g0 (od rfl id) (od rfl id) b_sub_3)
                    (cc rfl (p_move g0 (od rfl id))
                    (cc rfl (p_move g0 (od rfl id))
                    (cc rfl (p_binC (m' := ((b - mid : Nat) : Int)) (fun _ => by rw [IntKind.wrap_i64]; omega) g0 (od rfl id) (od rfl id) b_sub_3)
                    (cc rfl (p_assign g0 (od rfl id))
                    (cc rfl (p_assign g0 (od rfl id)) cn)))))))) fun a172 w172 b172 s172 => ?_
                have z172 := z171.below b172
                have hD := hD.below b172
                refine wp_seq ?_
                refine flowC mixed (s172.keep (sc 0 rfl (sc 1 rfl (sc 2 rfl (sc 3 rfl (sc 8 rfl (sc 9 rfl (sc 10 rfl (sc 11 rfl (sc 12 rfl (sc 14 rfl (sc 15 rfl (sc 16 rfl (sc 17 rfl (sc 94 rfl (sc 99 rfl (sc 100 rfl (sc 101 rfl (sc 102 rfl (sc 103 rfl (sc 104 rfl (sc 105 rfl (sc 106 rfl (sc 107 rfl (sc 108 rfl sn))))))))))))))))))))))))) (by kernel_rfl) (by kernel_rfl) (cc rfl (p_move g0 (od rfl id))
                    (cc rfl (p_binC (m' := (((b - a) / 8 : Nat) : Int)) (fun _ => rfl) g0 (od rfl id) (oc _) (b_quo_3 (a := (b - a)) (b := 8) (by omega) (by omega)))
                    (cc rfl (p_assign g0 (od rfl id)) cn))) fun a173 w173 b173 s173 => ?_
                have z173 := z172.below b173
                have hD := hD.below b173
                refine wp_seq ?_
                refine flowC mixed (s173.keep (sc 0 rfl (sc 1 rfl (sc 2 rfl (sc 3 rfl (sc 8 rfl (sc 9 rfl (sc 10 rfl (sc 11 rfl (sc 12 rfl (sc 14 rfl (sc 15 rfl (sc 16 rfl (sc 17 rfl (sc 18 rfl (sc 94 rfl (sc 99 rfl (sc 100 rfl (sc 101 rfl (sc 102 rfl (sc 103 rfl (sc 104 rfl (sc 105 rfl (sc 106 rfl (sc 107 rfl (sc 108 rfl (sc 109 rfl (sc 110 rfl sn)))))))))))))))))))))))))))) (by kernel_rfl) (by kernel_rfl) (cc rfl (p_move g0 (od rfl id))
                    (cc rfl (p_move g0 (od rfl id))
                    (cc rfl (p_bin g0 (od rfl id) (od rfl id) b_lss_3) cn))) fun a174 w174 b174 s174 => ?_
                have z174 := z173.below b174
                have hD := hD.below b174
                refine s174.cond 113 rfl (fun h113 => ?_) (fun h113 => ?_)
                · -- true
                  refine wp_seq ?_
                  refine flowT (s174.keep (sc 0 rfl (sc 1 rfl (sc 2 rfl (sc 3 rfl (sc 8 rfl (sc 9 rfl (sc 10 rfl (sc 11 rfl (sc 12 rfl (sc 14 rfl (sc 15 rfl (sc 16 rfl (sc 17 rfl (sc 18 rfl (sc 94 rfl (sc 99 rfl (sc 100 rfl (sc 101 rfl (sc 102 rfl (sc 103 rfl (sc 104 rfl (sc 105 rfl (sc 106 rfl (sc 107 rfl (sc 108 rfl (sc 109 rfl (sc 110 rfl (sc 111 rfl (sc 112 rfl (sc 113 rfl sn))))))))))))))))))))))))))))))) (by kernel_rfl) (cc rfl (p_move g0 (od rfl id))
                      (cc rfl (p_move g0 (od rfl id))
                      (cc rfl (p_bin g0 (od rfl id) (od rfl id) b_geq_3)
                      (cc rfl (p_assign g0 (od rfl id)) cn)))) fun a175 w175 b175 s175 => ?_
                  have z175 := z174.below b175
                  have hD := hD.below b175
                  refine wp_seq ?_
                  refine wp_region_lit ?_
                  refine with_st (s175.keep (sc 0 rfl (sc 1 rfl (sc 2 rfl (sc 3 rfl (sc 8 rfl (sc 9 rfl (sc 10 rfl (sc 11 rfl (sc 12 rfl (sc 14 rfl (sc 15 rfl (sc 16 rfl (sc 17 rfl (sc 18 rfl (sc 94 rfl (sc 99 rfl (sc 100 rfl (sc 101 rfl (sc 102 rfl (sc 103 rfl (sc 104 rfl (sc 105 rfl (sc 106 rfl (sc 107 rfl (sc 108 rfl (sc 109 rfl (sc 110 rfl (sc 111 rfl (sc 112 rfl (sc 113 rfl (sc 114 rfl (sc 115 rfl (sc 116 rfl sn)))))))))))))))))))))))))))))))))) fun s175 => ?_
                  refine chainK 4 (cc rfl (p_move g0 (od rfl id))
                      (cc rfl (p_move g0 (od rfl id))
                      (cc rfl (p_move g0 (od rfl id))
                      (cc rfl (p_move g0 (od rfl id)) cn)))) (by kernel_rfl) s175 fun a176 w176 b176 s176 => ?_
                  have z176 := z175.below b176
                  have hD := hD.below b176
                  show wpList _ _ _ (_ :: _) _ _
                  refine callN (R := fun w' => ∃ D, Goal (a) (mid) d5 D ∧ RowD w' g cap n D ∧ OnlyB (fun i => i = g) w176 w') [.tmp 117, .tmp 118, .tmp 119, .tmp 120] [slD g n cap, .int .i64 ((a : Nat) : Int), .int .i64 ((mid : Nat) : Int), .int .i64 lim2] s176 (by simp [Region.wanted]) (fun _ _ => by kernel_rfl) rfl (by decide) (ac (s176.get 117 rfl) (ac (s176.get 118 rfl) (ac (s176.get 119 rfl) (ac (s176.get 120 rfl) an0)))) (ih _ (a) (mid) d5 lim2 (by omega) hD (by omega) (by omega) hBll) (vv 0 rfl (vv 1 rfl (vv 2 rfl (vv 3 rfl (vv 8 rfl (vv 9 rfl (vv 10 rfl (vv 11 rfl (vv 12 rfl (vv 14 rfl (vv 15 rfl (vv 16 rfl (vv 17 rfl (vv 18 rfl vn)))))))))))))) fun v177 a177 w177 hR177 s177 => ?_
                  obtain ⟨L, ⟨hL1, hL2⟩, hD0, hz177⟩ := hR177
                  have z177 := z176.trans hz177 (fun _ _ h => h)
                  obtain ⟨hBn, hrn⟩ := hrl L hL1 hL2
                  have hD := hD0
                  refine wpList_done ?_
                  refine flowT (s177.keep (sc 0 rfl (sc 1 rfl (sc 2 rfl (sc 3 rfl (sc 8 rfl (sc 9 rfl (sc 10 rfl (sc 11 rfl (sc 12 rfl (sc 14 rfl (sc 15 rfl (sc 16 rfl (sc 17 rfl (sc 18 rfl sn))))))))))))))) (by kernel_rfl) (cc rfl (p_move g0 (od rfl id))
                      (cc rfl (p_binC (m' := ((mid + 1 : Nat) : Int)) (fun _ => by rw [IntKind.wrap_i64]; omega) g0 (od rfl id) (oc _) b_add_3)
                      (cc rfl (p_assign g0 (od rfl id)) cn))) fun a178 w178 b178 s178 => ?_
                  have z178 := z177.below b178
                  have hD := hD.below b178
                  exact ⟨b - (mid + 1), by omega, mid + 1, b, lim2, _, ap, L, rfl, by omega, hbn, by omega, hBn, fun D h => hrest D (hrn D h.1 h.2), hD, z178, s178.to _ ⟨rfl, rfl, rfl, rfl, rfl, rfl, True.intro⟩⟩
                · -- false
                  refine wp_seq ?_
                  refine flowT (s174.keep (sc 0 rfl (sc 1 rfl (sc 2 rfl (sc 3 rfl (sc 8 rfl (sc 9 rfl (sc 10 rfl (sc 11 rfl (sc 12 rfl (sc 14 rfl (sc 15 rfl (sc 16 rfl (sc 17 rfl (sc 18 rfl (sc 94 rfl (sc 99 rfl (sc 100 rfl (sc 101 rfl (sc 102 rfl (sc 103 rfl (sc 104 rfl (sc 105 rfl (sc 106 rfl (sc 107 rfl (sc 108 rfl (sc 109 rfl (sc 110 rfl (sc 111 rfl (sc 112 rfl (sc 113 rfl sn))))))))))))))))))))))))))))))) (by kernel_rfl) (cc rfl (p_move g0 (od rfl id))
                      (cc rfl (p_move g0 (od rfl id))
                      (cc rfl (p_bin g0 (od rfl id) (od rfl id) b_geq_3)
                      (cc rfl (p_assign g0 (od rfl id)) cn)))) fun a179 w179 b179 s179 => ?_
                  have z179 := z174.below b179
                  have hD := hD.below b179
                  refine wp_seq ?_
                  refine wp_region_lit ?_
                  refine with_st (s179.keep (sc 0 rfl (sc 1 rfl (sc 2 rfl (sc 3 rfl (sc 8 rfl (sc 9 rfl (sc 10 rfl (sc 11 rfl (sc 12 rfl (sc 14 rfl (sc 15 rfl (sc 16 rfl (sc 17 rfl (sc 18 rfl (sc 94 rfl (sc 99 rfl (sc 100 rfl (sc 101 rfl (sc 102 rfl (sc 103 rfl (sc 104 rfl (sc 105 rfl (sc 106 rfl (sc 107 rfl (sc 108 rfl (sc 109 rfl (sc 110 rfl (sc 111 rfl (sc 112 rfl (sc 113 rfl (sc 124 rfl (sc 125 rfl (sc 126 rfl sn)))))))))))))))))))))))))))))))))) fun s179 => ?_
                  refine chainK 5 (cc rfl (p_move g0 (od rfl id))
                      (cc rfl (p_move g0 (od rfl id))
                      (cc rfl (p_binC (m' := ((mid + 1 : Nat) : Int)) (fun _ => by rw [IntKind.wrap_i64]; omega) g0 (od rfl id) (oc _) b_add_3)
                      (cc rfl (p_move g0 (od rfl id))
                      (cc rfl (p_move g0 (od rfl id)) cn))))) (by kernel_rfl) s179 fun a180 w180 b180 s180 => ?_
                  have z180 := z179.below b180
                  have hD := hD.below b180
                  show wpList _ _ _ (_ :: _) _ _
                  refine callN (R := fun w' => ∃ D, Goal (mid + 1) (b) d5 D ∧ RowD w' g cap n D ∧ OnlyB (fun i => i = g) w180 w') [.tmp 127, .tmp 129, .tmp 130, .tmp 131] [slD g n cap, .int .i64 ((mid + 1 : Nat) : Int), .int .i64 ((b : Nat) : Int), .int .i64 lim2] s180 (by simp [Region.wanted]) (fun _ _ => by kernel_rfl) rfl (by decide) (ac (s180.get 127 rfl) (ac (s180.get 129 rfl) (ac (s180.get 130 rfl) (ac (s180.get 131 rfl) an0)))) (ih _ (mid + 1) (b) d5 lim2 (by omega) hD (by omega) (by omega) hBlr) (vv 0 rfl (vv 1 rfl (vv 2 rfl (vv 3 rfl (vv 8 rfl (vv 9 rfl (vv 10 rfl (vv 11 rfl (vv 12 rfl (vv 14 rfl (vv 15 rfl (vv 16 rfl (vv 17 rfl (vv 18 rfl vn)))))))))))))) fun v181 a181 w181 hR181 s181 => ?_
                  obtain ⟨L, ⟨hL1, hL2⟩, hD0, hz181⟩ := hR181
                  have z181 := z180.trans hz181 (fun _ _ h => h)
                  obtain ⟨hBn, hrn⟩ := hrr L hL1 hL2
                  have hD := hD0
                  refine wpList_done ?_
                  refine flowT (s181.keep (sc 0 rfl (sc 1 rfl (sc 2 rfl (sc 3 rfl (sc 8 rfl (sc 9 rfl (sc 10 rfl (sc 11 rfl (sc 12 rfl (sc 14 rfl (sc 15 rfl (sc 16 rfl (sc 17 rfl (sc 18 rfl sn))))))))))))))) (by kernel_rfl) (cc rfl (p_move g0 (od rfl id))
                      (cc rfl (p_assign g0 (od rfl id)) cn)) fun a182 w182 b182 s182 => ?_
                  have z182 := z181.below b182
                  have hD := hD.below b182
                  exact ⟨mid - a, by omega, a, mid, lim2, _, ap, L, rfl, by omega, by omega, by omega, hBn, fun D h => hrest D (hrn D h.1 h.2), hD, z182, s182.to _ ⟨rfl, rfl, rfl, rfl, rfl, rfl, True.intro⟩⟩
          · -- false
            obtain ⟨d4, rfl⟩ : ∃ d4, d4 = d3 := ⟨_, rfl⟩
            refine wp_skip ?_
            refine wp_seq ?_
            refine wp_seq ?_
            have s160 := s160.more 0 (y := .rowD g n cap d4) (at_rowD hD (s160.get 0 rfl))
            refine flowC mixed (s160.keep (sc 0 rfl (sc 1 rfl (sc 2 rfl (sc 3 rfl (sc 8 rfl (sc 9 rfl (sc 10 rfl (sc 11 rfl (sc 12 rfl (sc 42 rfl (sc 46 rfl (sc 47 rfl (sc 48 rfl (sc 49 rfl (sc 50 rfl (sc 61 rfl (sc 62 rfl (sc 63 rfl (sc 64 rfl (sc 65 rfl (sc 66 rfl (sc 67 rfl (sc 68 rfl sn)))))))))))))))))))))))) (by kernel_rfl) (by kernel_rfl) (cc rfl (p_move g0 (od rfl id))
                (cc rfl (p_bin g0 (od rfl id) (oc _) b_gtr_3)
                (cc rfl (p_move g0 (od rfl id))
                (cc rfl (p_move (g1 rfl rfl) (od rfl (fun _ => rfl)))
                (cc rfl (p_move (g1 rfl rfl) (od rfl (fun _ => rfl)))
                (cc rfl (p_binC (m' := ((a - 1 : Nat) : Int)) (fun h => by simp at h; rw [IntKind.wrap_i64]; omega) (g1 rfl rfl) (od rfl id) (oc _) b_sub_3)
                (cc rfl (p_idxD (i := a - 1) (fun h => by simp at h; omega) (g1 rfl rfl) (od rfl id) (od rfl id))
                (cc rfl (p_ldD (g1 rfl rfl) (od rfl id))
                (cc rfl (p_move (g1 rfl rfl) (od rfl (fun _ => rfl)))
                (cc rfl (p_move (g1 rfl rfl) (od rfl (fun _ => rfl)))
                (cc rfl (p_idxD (i := pv) (fun h => by simp at h; omega) (g1 rfl rfl) (od rfl id) (od rfl id))
                (cc rfl (p_ldD (g1 rfl rfl) (od rfl id))
                (cc rfl (p_call 60 (g1 rfl rfl) (ox (od rfl id) (ox (od rfl id) ox0)) (fun _ _ => by kernel_rfl) f60)
                (cc rfl (p_not (g1 rfl rfl) (od rfl id))
                (cc rfl (p_and g0 (od rfl id) (od rfl id)) cn))))))))))))))) fun a183 w183 b183 s183 => ?_
            have z183 := z160.below b183
            have hD := hD.below b183
            have s183 := s183.more 0 (y := .val (slD g n cap)) (s183.get 0 rfl).1
            refine s183.cond 87 rfl (fun h87 => ?_) (fun h87 => ?_)
            · -- true
              have h2 := h87
              rw [Bool.and_eq_true, Bool.not_eq_true'] at h2
              obtain ⟨h3, hnl⟩ := h2
              have ha0 : 0 < a := by have h4 := of_decide_eq_true h3; (try dsimp only at h4); omega
              refine wp_seq ?_
              refine wp_region_lit ?_
              refine with_st (s183.keep (sc 0 rfl (sc 1 rfl (sc 2 rfl (sc 3 rfl (sc 8 rfl (sc 9 rfl (sc 10 rfl (sc 11 rfl (sc 12 rfl (sc 42 rfl (sc 46 rfl (sc 47 rfl (sc 48 rfl (sc 49 rfl (sc 50 rfl (sc 61 rfl (sc 62 rfl (sc 63 rfl (sc 64 rfl (sc 65 rfl (sc 66 rfl (sc 67 rfl (sc 68 rfl (sc 73 rfl (sc 74 rfl (sc 75 rfl (sc 76 rfl (sc 77 rfl (sc 78 rfl (sc 79 rfl (sc 80 rfl (sc 81 rfl (sc 82 rfl (sc 83 rfl (sc 84 rfl (sc 85 rfl (sc 86 rfl (sc 87 rfl sn))))))))))))))))))))))))))))))))))))))) fun s183 => ?_
              refine chainK 4 (cc rfl (p_move g0 (od rfl id))
                  (cc rfl (p_move g0 (od rfl id))
                  (cc rfl (p_move g0 (od rfl id))
                  (cc rfl (p_move g0 (od rfl id)) cn)))) (by kernel_rfl) s183 fun a184 w184 b184 s184 => ?_
              have z184 := z183.below b184
              have hD := hD.below b184
              show wpList _ _ _ (_ :: _) _ _
              refine callR (R := fun v w' => ∃ t : Nat × Array Int, partitionEqual ltInt d4 a b pv = t ∧ v = .int .i64 (t.1 : Int) ∧ RowD w' g cap n t.2 ∧ OnlyB (fun i => i = g) w184 w') [.tmp 88, .tmp 89, .tmp 90, .tmp 91] [slD g n cap, .int .i64 (a : Int), .int .i64 (b : Int), .int .i64 (pv : Int)] s184 (by simp [Region.wanted]) (fun _ _ => by kernel_rfl) rfl (by decide) (ac (s184.get 88 rfl) (ac (s184.get 89 rfl) (ac (s184.get 90 rfl) (ac (s184.get 91 rfl) an0)))) (cPeq hD hn hp1 hp2 hbn) (vv 0 rfl (vv 1 rfl (vv 2 rfl (vv 3 rfl (vv 8 rfl (vv 9 rfl (vv 10 rfl (vv 11 rfl (vv 12 rfl vn))))))))) fun v185 a185 w185 hR185 s185 => ?_
              obtain ⟨⟨mid, d5⟩, ht5, e185, hD0, hz185⟩ := hR185
              have z185 := z184.trans hz185 (fun _ _ h => h)
              have s185 := s185.more 92 (y := .int .i64 (mid : Int)) ((s185.get 92 rfl).trans e185)
              obtain ⟨hm1, hm2, _, hBl5, hr5⟩ := Go.Sort.round_eq Go.Sort.swo_ltInt (Go.Sort.partitionEqual_holds _) ha0 hp1 hp2 (by rw [hD.size]; exact hbn) hBl hnl ht5
              replace hD0 : RowD _ g cap n d5 := hD0
              have hD := hD0
              refine chainK 1 (cc rfl (p_assign g0 (od rfl id)) cn) (by kernel_rfl) s185 fun a186 w186 b186 s186 => ?_
              have z186 := z185.below b186
              have hD := hD.below b186
              refine wpList_done ?_
              refine wp_seq ?_
              refine flowT (s186.keep (sc 0 rfl (sc 1 rfl (sc 2 rfl (sc 3 rfl (sc 8 rfl (sc 9 rfl (sc 10 rfl (sc 11 rfl (sc 12 rfl (sc 13 rfl (sc 92 rfl sn)))))))))))) (by kernel_rfl) (cc rfl (p_move g0 (od rfl id))
                  (cc rfl (p_assign g0 (od rfl id)) cn)) fun a187 w187 b187 s187 => ?_
              have z187 := z186.below b187
              have hD := hD.below b187
              refine wp_exit ?_
              exact ⟨b - mid, by omega, mid, b, lim2, wb, wp, d5, rfl, hm2, hbn, by omega, hBl5, fun D h => hrest D (hr5 D h.1 h.2), hD, z187, s187.to _ ⟨rfl, rfl, rfl, rfl, rfl, rfl, True.intro⟩⟩
            · -- false
              refine wp_skip ?_
              refine wp_seq ?_
              refine wp_region_lit ?_
              refine with_st (s183.keep (sc 0 rfl (sc 1 rfl (sc 2 rfl (sc 3 rfl (sc 8 rfl (sc 9 rfl (sc 10 rfl (sc 11 rfl (sc 12 rfl (sc 42 rfl (sc 46 rfl (sc 47 rfl (sc 48 rfl (sc 49 rfl (sc 50 rfl (sc 61 rfl (sc 62 rfl (sc 63 rfl (sc 64 rfl (sc 65 rfl (sc 66 rfl (sc 67 rfl (sc 68 rfl (sc 73 rfl (sc 74 rfl (sc 75 rfl (sc 76 rfl (sc 77 rfl (sc 78 rfl (sc 79 rfl (sc 80 rfl (sc 81 rfl (sc 82 rfl (sc 83 rfl (sc 84 rfl (sc 85 rfl (sc 86 rfl (sc 87 rfl sn))))))))))))))))))))))))))))))))))))))) fun s183 => ?_
              refine chainK 4 (cc rfl (p_move g0 (od rfl id))
                  (cc rfl (p_move g0 (od rfl id))
                  (cc rfl (p_move g0 (od rfl id))
                  (cc rfl (p_move g0 (od rfl id)) cn)))) (by kernel_rfl) s183 fun a188 w188 b188 s188 => ?_
              have z188 := z183.below b188
              have hD := hD.below b188
              show wpList _ _ _ (_ :: _) _ _
              refine callR (R := fun v w' => ∃ t : Nat × Bool × Array Int, partition ltInt d4 a b pv = t ∧ v = .tuple #[.int .i64 (t.1 : Int), .bool t.2.1] ∧ RowD w' g cap n t.2.2 ∧ OnlyB (fun i => i = g) w188 w') [.tmp 95, .tmp 96, .tmp 97, .tmp 98] [slD g n cap, .int .i64 (a : Int), .int .i64 (b : Int), .int .i64 (pv : Int)] s188 (by simp [Region.wanted]) (fun _ _ => by kernel_rfl) rfl (by decide) (ac (s188.get 95 rfl) (ac (s188.get 96 rfl) (ac (s188.get 97 rfl) (ac (s188.get 98 rfl) an0)))) (cPar hD hn hp1 hp2 hbn) (vv 0 rfl (vv 1 rfl (vv 2 rfl (vv 3 rfl (vv 8 rfl (vv 9 rfl (vv 10 rfl (vv 11 rfl (vv 12 rfl vn))))))))) fun v189 a189 w189 hR189 s189 => ?_
              obtain ⟨⟨mid, ap, d5⟩, ht5, e189, hD0, hz189⟩ := hR189
              have z189 := z188.trans hz189 (fun _ _ h => h)
              have s189 := s189.more 99 (y := .two (.int .i64 (mid : Int)) (.bool ap)) (at_two ((s189.get 99 rfl).trans e189))
              obtain ⟨hm1, hm2, _, hBll, hBlr, hrl, hrr⟩ := Go.Sort.round_part Go.Sort.swo_ltInt (Go.Sort.partition_holds _) hp1 hp2 (by rw [hD.size]; exact hbn) hBl ht5
              replace hD0 : RowD _ g cap n d5 := hD0
              have hD := hD0
              refine chainK 5 (cc rfl (p_move g0 (od rfl id))
                  (cc rfl (p_ext0 g0 (od rfl id))
                  (cc rfl (p_ext1 g0 (od rfl id))
                  (cc rfl (p_assign g0 (od rfl id))
                  (cc rfl (p_assign g0 (od rfl id)) cn))))) (by kernel_rfl) s189 fun a190 w190 b190 s190 => ?_
              have z190 := z189.below b190
              have hD := hD.below b190
              refine wpList_done ?_
              refine wp_seq ?_
              refine flowT (s190.keep (sc 0 rfl (sc 1 rfl (sc 2 rfl (sc 3 rfl (sc 8 rfl (sc 9 rfl (sc 10 rfl (sc 11 rfl (sc 12 rfl (sc 14 rfl (sc 15 rfl (sc 94 rfl (sc 99 rfl (sc 100 rfl (sc 101 rfl sn)))))))))))))))) (by kernel_rfl) (cc rfl (p_move g0 (od rfl id))
                  (cc rfl (p_assign g0 (od rfl id)) cn)) fun a191 w191 b191 s191 => ?_
              have z191 := z190.below b191
              have hD := hD.below b191
              refine wp_seq ?_
              refine flowC mixed (s191.keep (sc 0 rfl (sc 1 rfl (sc 2 rfl (sc 3 rfl (sc 8 rfl (sc 9 rfl (sc 10 rfl (sc 11 rfl (sc 12 rfl (sc 14 rfl (sc 15 rfl (sc 94 rfl (sc 99 rfl (sc 100 rfl (sc 101 rfl (sc 102 rfl sn))))))))))))))))) (by kernel_rfl) (by kernel_rfl) (cc rfl (p_move g0 (od rfl id))
                  (cc rfl (p_move g0 (od rfl id))
                  (cc rfl (p_binC (m' := ((mid - a : Nat) : Int)) (fun _ => by rw [IntKind.wrap_i64]; omega) g0 (od rfl id) (od rfl id) b_sub_3)
                  (cc rfl (p_move g0 (od rfl id))
                  (cc rfl (p_move g0 (od rfl id))
                  (cc rfl (p_binC (m' := ((b - mid : Nat) : Int)) (fun _ => by rw [IntKind.wrap_i64]; omega) g0 (od rfl id) (od rfl id) b_sub_3)
                  (cc rfl (p_assign g0 (od rfl id))
                  (cc rfl (p_assign g0 (od rfl id)) cn)))))))) fun a192 w192 b192 s192 => ?_
              have z192 := z191.below b192
              have hD := hD.below b192
              refine wp_seq ?_
              refine flowC mixed (s192.keep (sc 0 rfl (sc 1 rfl (sc 2 rfl (sc 3 rfl (sc 8 rfl (sc 9 rfl (sc 10 rfl (sc 11 rfl (sc 12 rfl (sc 14 rfl (sc 15 rfl (sc 16 rfl (sc 17 rfl (sc 94 rfl (sc 99 rfl (sc 100 rfl (sc 101 rfl (sc 102 rfl (sc 103 rfl (sc 104 rfl (sc 105 rfl (sc 106 rfl (sc 107 rfl (sc 108 rfl sn))))))))))))))))))))))))) (by kernel_rfl) (by kernel_rfl) (cc rfl (p_move g0 (od rfl id))
                  (cc rfl (p_binC (m' := (((b - a) / 8 : Nat) : Int)) (fun _ => rfl) g0 (od rfl id) (oc _) (b_quo_3 (a := (b - a)) (b := 8) (by omega) (by omega)))
                  (cc rfl (p_assign g0 (od rfl id)) cn))) fun a193 w193 b193 s193 => ?_
              have z193 := z192.below b193
              have hD := hD.below b193
              refine wp_seq ?_
              refine flowC mixed (s193.keep (sc 0 rfl (sc 1 rfl (sc 2 rfl (sc 3 rfl (sc 8 rfl (sc 9 rfl (sc 10 rfl (sc 11 rfl (sc 12 rfl (sc 14 rfl (sc 15 rfl (sc 16 rfl (sc 17 rfl (sc 18 rfl (sc 94 rfl (sc 99 rfl (sc 100 rfl (sc 101 rfl (sc 102 rfl (sc 103 rfl (sc 104 rfl (sc 105 rfl (sc 106 rfl (sc 107 rfl (sc 108 rfl (sc 109 rfl (sc 110 rfl sn)))))))))))))))))))))))))))) (by kernel_rfl) (by kernel_rfl) (cc rfl (p_move g0 (od rfl id))
                  (cc rfl (p_move g0 (od rfl id))
                  (cc rfl (p_bin g0 (od rfl id) (od rfl id) b_lss_3) cn))) fun a194 w194 b194 s194 => ?_
              have z194 := z193.below b194
              have hD := hD.below b194
              refine s194.cond 113 rfl (fun h113 => ?_) (fun h113 => ?_)
              · -- true
                refine wp_seq ?_
                refine flowT (s194.keep (sc 0 rfl (sc 1 rfl (sc 2 rfl (sc 3 rfl (sc 8 rfl (sc 9 rfl (sc 10 rfl (sc 11 rfl (sc 12 rfl (sc 14 rfl (sc 15 rfl (sc 16 rfl (sc 17 rfl (sc 18 rfl (sc 94 rfl (sc 99 rfl (sc 100 rfl (sc 101 rfl (sc 102 rfl (sc 103 rfl (sc 104 rfl (sc 105 rfl (sc 106 rfl (sc 107 rfl (sc 108 rfl (sc 109 rfl (sc 110 rfl (sc 111 rfl (sc 112 rfl (sc 113 rfl sn))))))))))))))))))))))))))))))) (by kernel_rfl) (cc rfl (p_move g0 (od rfl id))
                    (cc rfl (p_move g0 (od rfl id))
                    (cc rfl (p_bin g0 (od rfl id) (od rfl id) b_geq_3)
                    (cc rfl (p_assign g0 (od rfl id)) cn)))) fun a195 w195 b195 s195 => ?_
                have z195 := z194.below b195
                have hD := hD.below b195
                refine wp_seq ?_
                refine wp_region_lit ?_
                refine with_st (s195.keep (sc 0 rfl (sc 1 rfl (sc 2 rfl (sc 3 rfl (sc 8 rfl (sc 9 rfl (sc 10 rfl (sc 11 rfl (sc 12 rfl (sc 14 rfl (sc 15 rfl (sc 16 rfl (sc 17 rfl (sc 18 rfl (sc 94 rfl (sc 99 rfl (sc 100 rfl (sc 101 rfl (sc 102 rfl (sc 103 rfl (sc 104 rfl (sc 105 rfl (sc 106 rfl (sc 107 rfl (sc 108 rfl (sc 109 rfl (sc 110 rfl (sc 111 rfl (sc 112 rfl (sc 113 rfl (sc 114 rfl (sc 115 rfl (sc 116 rfl sn)))))))))))))))))))))))))))))))))) fun s195 => ?_
                refine chainK 4 (cc rfl (p_move g0 (od rfl id))
                    (cc rfl (p_move g0 (od rfl id))
                    (cc rfl (p_move g0 (od rfl id))
                    (cc rfl (p_move g0 (od rfl id)) cn)))) (by kernel_rfl) s195 fun a196 w196 b196 s196 => ?_
                have z196 := z195.below b196
                have hD := hD.below b196
                show wpList _ _ _ (_ :: _) _ _
                refine callN (R := fun w' => ∃ D, Goal (a) (mid) d5 D ∧ RowD w' g cap n D ∧ OnlyB (fun i => i = g) w196 w') [.tmp 117, .tmp 118, .tmp 119, .tmp 120] [slD g n cap, .int .i64 ((a : Nat) : Int), .int .i64 ((mid : Nat) : Int), .int .i64 lim2] s196 (by simp [Region.wanted]) (fun _ _ => by kernel_rfl) rfl (by decide) (ac (s196.get 117 rfl) (ac (s196.get 118 rfl) (ac (s196.get 119 rfl) (ac (s196.get 120 rfl) an0)))) (ih _ (a) (mid) d5 lim2 (by omega) hD (by omega) (by omega) hBll) (vv 0 rfl (vv 1 rfl (vv 2 rfl (vv 3 rfl (vv 8 rfl (vv 9 rfl (vv 10 rfl (vv 11 rfl (vv 12 rfl (vv 14 rfl (vv 15 rfl (vv 16 rfl (vv 17 rfl (vv 18 rfl vn)))))))))))))) fun v197 a197 w197 hR197 s197 => ?_
                obtain ⟨L, ⟨hL1, hL2⟩, hD0, hz197⟩ := hR197
                have z197 := z196.trans hz197 (fun _ _ h => h)
                obtain ⟨hBn, hrn⟩ := hrl L hL1 hL2
                have hD := hD0
                refine wpList_done ?_
                refine flowT (s197.keep (sc 0 rfl (sc 1 rfl (sc 2 rfl (sc 3 rfl (sc 8 rfl (sc 9 rfl (sc 10 rfl (sc 11 rfl (sc 12 rfl (sc 14 rfl (sc 15 rfl (sc 16 rfl (sc 17 rfl (sc 18 rfl sn))))))))))))))) (by kernel_rfl) (cc rfl (p_move g0 (od rfl id))
                    (cc rfl (p_binC (m' := ((mid + 1 : Nat) : Int)) (fun _ => by rw [IntKind.wrap_i64]; omega) g0 (od rfl id) (oc _) b_add_3)
                    (cc rfl (p_assign g0 (od rfl id)) cn))) fun a198 w198 b198 s198 => ?_
                have z198 := z197.below b198
                have hD := hD.below b198
                exact ⟨b - (mid + 1), by omega, mid + 1, b, lim2, _, ap, L, rfl, by omega, hbn, by omega, hBn, fun D h => hrest D (hrn D h.1 h.2), hD, z198, s198.to _ ⟨rfl, rfl, rfl, rfl, rfl, rfl, True.intro⟩⟩
              · -- false
                refine wp_seq ?_
                refine flowT (s194.keep (sc 0 rfl (sc 1 rfl (sc 2 rfl (sc 3 rfl (sc 8 rfl (sc 9 rfl (sc 10 rfl (sc 11 rfl (sc 12 rfl (sc 14 rfl (sc 15 rfl (sc 16 rfl (sc 17 rfl (sc 18 rfl (sc 94 rfl (sc 99 rfl (sc 100 rfl (sc 101 rfl (sc 102 rfl (sc 103 rfl (sc 104 rfl (sc 105 rfl (sc 106 rfl (sc 107 rfl (sc 108 rfl (sc 109 rfl (sc 110 rfl (sc 111 rfl (sc 112 rfl (sc 113 rfl sn))))))))))))))))))))))))))))))) (by kernel_rfl) (cc rfl (p_move g0 (od rfl id))
                    (cc rfl (p_move g0 (od rfl id))
                    (cc rfl (p_bin g0 (od rfl id) (od rfl id) b_geq_3)
                    (cc rfl (p_assign g0 (od rfl id)) cn)))) fun a199 w199 b199 s199 => ?_
                have z199 := z194.below b199
                have hD := hD.below b199
                refine wp_seq ?_
                refine wp_region_lit ?_
                refine with_st (s199.keep (sc 0 rfl (sc 1 rfl (sc 2 rfl (sc 3 rfl (sc 8 rfl (sc 9 rfl (sc 10 rfl (sc 11 rfl (sc 12 rfl (sc 14 rfl (sc 15 rfl (sc 16 rfl (sc 17 rfl (sc 18 rfl (sc 94 rfl (sc 99 rfl (sc 100 rfl (sc 101 rfl (sc 102 rfl (sc 103 rfl (sc 104 rfl (sc 105 rfl (sc 106 rfl (sc 107 rfl (sc 108 rfl (sc 109 rfl (sc 110 rfl (sc 111 rfl (sc 112 rfl (sc 113 rfl (sc 124 rfl (sc 125 rfl (sc 126 rfl sn)))))))))))))))))))))))))))))))))) fun s199 => ?_
                refine chainK 5 (cc rfl (p_move g0 (od rfl id))
                    (cc rfl (p_move g0 (od rfl id))
                    (cc rfl (p_binC (m' := ((mid + 1 : Nat) : Int)) (fun _ => by rw [IntKind.wrap_i64]; omega) g0 (od rfl id) (oc _) b_add_3)
                    (cc rfl (p_move g0 (od rfl id))
                    (cc rfl (p_move g0 (od rfl id)) cn))))) (by kernel_rfl) s199 fun a200 w200 b200 s200 => ?_
                have z200 := z199.below b200
                have hD := hD.below b200
                show wpList _ _ _ (_ :: _) _ _
                refine callN (R := fun w' => ∃ D, Goal (mid + 1) (b) d5 D ∧ RowD w' g cap n D ∧ OnlyB (fun i => i = g) w200 w') [.tmp 127, .tmp 129, .tmp 130, .tmp 131] [slD g n cap, .int .i64 ((mid + 1 : Nat) : Int), .int .i64 ((b : Nat) : Int), .int .i64 lim2] s200 (by simp [Region.wanted]) (fun _ _ => by kernel_rfl) rfl (by decide) (ac (s200.get 127 rfl) (ac (s200.get 129 rfl) (ac (s200.get 130 rfl) (ac (s200.get 131 rfl) an0)))) (ih _ (mid + 1) (b) d5 lim2 (by omega) hD (by omega) (by omega) hBlr) (vv 0 rfl (vv 1 rfl (vv 2 rfl (vv 3 rfl (vv 8 rfl (vv 9 rfl (vv 10 rfl (vv 11 rfl (vv 12 rfl (vv 14 rfl (vv 15 rfl (vv 16 rfl (vv 17 rfl (vv 18 rfl vn)))))))))))))) fun v201 a201 w201 hR201 s201 => ?_
                obtain ⟨L, ⟨hL1, hL2⟩, hD0, hz201⟩ := hR201
                have z201 := z200.trans hz201 (fun _ _ h => h)
                obtain ⟨hBn, hrn⟩ := hrr L hL1 hL2
                have hD := hD0
                refine wpList_done ?_
                refine flowT (s201.keep (sc 0 rfl (sc 1 rfl (sc 2 rfl (sc 3 rfl (sc 8 rfl (sc 9 rfl (sc 10 rfl (sc 11 rfl (sc 12 rfl (sc 14 rfl (sc 15 rfl (sc 16 rfl (sc 17 rfl (sc 18 rfl sn))))))))))))))) (by kernel_rfl) (cc rfl (p_move g0 (od rfl id))
                    (cc rfl (p_assign g0 (od rfl id)) cn)) fun a202 w202 b202 s202 => ?_
                have z202 := z201.below b202
                have hD := hD.below b202
                exact ⟨mid - a, by omega, a, mid, lim2, _, ap, L, rfl, by omega, by omega, by omega, hBn, fun D h => hrest D (hrn D h.1 h.2), hD, z202, s202.to _ ⟨rfl, rfl, rfl, rfl, rfl, rfl, True.intro⟩⟩
theorem cPdq {g cap n : Nat} (hn : n < 4611686018427387904) : ∀ (m : Nat) (w : World) (a b : Nat) (d : Array Int) (lim : Int), b - a ≤ m → RowD w g cap n d → a ≤ b → b ≤ n → Go.Sort.Below ltInt a b d → Calls Try.prog 70 #[slD g n cap, .int .i64 (a : Int), .int .i64 (b : Int), .int .i64 lim] w fun e w' => e = .returned (.tuple #[]) ∧ ∃ D, Goal a b d D ∧ RowD w' g cap n D ∧ OnlyB (fun i => i = g) w w' := by
  intro m
  induction m with
  | zero => exact fun w a b d lim hm hD hab hb hB => cPdqS hn (fun _ _ _ _ _ h => by omega) hD hab hb hB
  | succ m ih => exact fun w a b d lim hm hD hab hb hB => cPdqS hn (fun w a' b' d' lim' h h1 h2 h3 h4 => ih w a' b' d' lim' (by omega) h1 h2 h3 h4) hD hab hb hB

end Go.Proofs.Ytbeeiecbbmiojaa.Y
