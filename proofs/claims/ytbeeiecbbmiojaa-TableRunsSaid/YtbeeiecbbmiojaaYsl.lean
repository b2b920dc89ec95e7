/- Ysl: slices.Sort at uint64 -/
import Derived.Test.YtbeeiecbbmiojaaYsk
namespace Go.Proofs.Ytbeeiecbbmiojaa.Y
open Go.RowKit Go.ChangeShapes Go.WideShapes Go.ChangeAt Go.ChangeMaps Go.MapKept

open Go.Sort (ltInt swp PermIn SortedIn)
section
variable {U : Prop} {ops : Array Oper} {Q : Exit → Act → World → Prop} {N d : Nat} {e : Env} {t : TypeId} {p : String} {af : Array Edge} {gd : Option (Nat × Bool)} {c : Bool} {x : Operand} {A : Option Addr} {n cap : Nat}
theorem ln_29' : LenRun Try.prog ⟨some d, .call { callee := .builtin .len, args := #[x], argTypes := #[29] }, t, p, af, gd⟩ x := fun ev w A len cap h1 => by go_simp
theorem p_lenD (hg : GdE ops e gd c) (hx : OpdE e c x (.val (.slice A n cap))) : Pays U Try.prog ops Q N e ⟨some d, .call { callee := .builtin .len, args := #[x], argTypes := #[29] }, t, p, af, gd⟩ (c, .int .i64 (n : Int)) :=
  pVal hg fun e a w F hk => ⟨_, ln_29' _ w A n cap (hx a w F (fun s hs => hk s (by
    rw [show (Op.call { callee := .builtin .len, args := #[x], argTypes := #[29] }).operands = #[x] from rfl]
    simpa using hs)) e), rfl⟩
end
set_option maxRecDepth 100000 in

/-- slices.Sort at uint64. -/
theorem cSort {w : World} {g cap n : Nat} {d : Array Int} (hn : n < 4611686018427387904) (hD : RowD w g cap n d) : Calls Try.prog 56 #[slD g n cap] w fun e w' => e = .returned (.tuple #[]) ∧ ∃ D, Goal 0 n d D ∧ RowD w' g cap n D ∧ OnlyB (fun i => i = g) w w' := by
  have z0 : OnlyB (fun i => i = g) w w := OnlyB.refl _ _
  go_enter Try.func56, Try.ntmps56
  refine wp_seq ?_
  refine flowC mixed (st0 (U := False) (N := 11) (e := [(0, true, .val (slD g n cap))]) (F := noF) rfl rfl (fok_no _ _) ⟨⟨rfl, rfl⟩, True.intro⟩) (by kernel_rfl) (by kernel_rfl) (cc rfl (p_move g0 (od rfl id))
      (cc rfl (p_lenD g0 (od rfl id))
      (cc rfl (p_assign g0 (od rfl id)) cn))) fun a1 w1 b1 s1 => ?_
  have z1 := z0.below b1
  have hD := hD.below b1
  refine wp_region_lit ?_
  refine with_st (s1.keep (sc 0 rfl (sc 2 rfl sn))) fun s1 => ?_
  refine chainK 4 (cc rfl (p_move g0 (od rfl id))
      (cc rfl (p_move g0 (od rfl id))
      (cc rfl (p_move g0 (od rfl id))
      (cc rfl (p_conv g0 (od rfl id) (cv355 (by omega))) cn)))) (by kernel_rfl) s1 fun a2 w2 b2 s2 => ?_
  have z2 := z1.below b2
  have hD := hD.below b2
  show wpList _ _ _ (_ :: _) _ _
  refine callR (R := fun v w' => ∃ L : Nat, v = .int .i64 (L : Int) ∧ (1 ≤ n → 2 ^ L ≤ 2 * n) ∧ L ≤ 64 ∧ Below w2.heap.size w2 w') [.tmp 8] [.int .u64 (n : Int)] s2 (by simp [Region.wanted]) (fun _ _ => by kernel_rfl) rfl (by decide) (ac (s2.get 8 rfl) an0) (cLenU (by omega)) (vv 5 rfl (vv 6 rfl vn)) fun v3 a3 w3 hR3 s3 => ?_
  obtain ⟨L, e3, _, _, hb3⟩ := hR3
  have hD := hD.below hb3
  have z3 := z2.below hb3
  have s3 := s3.more 9 (y := .int .i64 (L : Int)) ((s3.get 9 rfl).trans e3)
  show wpList _ _ _ (_ :: _) _ _
  refine callN (R := fun w' => ∃ D, Goal 0 n d D ∧ RowD w' g cap n D ∧ OnlyB (fun i => i = g) w3 w') [.tmp 5, .const (.int .i64 0), .tmp 6, .tmp 9] [slD g n cap, .int .i64 ((0 : Nat) : Int), .int .i64 (n : Int), .int .i64 (L : Int)] s3 (by simp [Region.wanted]) (fun _ _ => by kernel_rfl) rfl (by decide) (ac (s3.get 5 rfl) (ac rfl (ac (s3.get 6 rfl) (ac (s3.get 9 rfl) an0)))) (cPdq hn n _ 0 n d L (by omega) hD (by omega) (Nat.le_refl _) (.inl rfl)) vn fun v4 a4 w4 hR4 s4 => ?_
  obtain ⟨D, hgo, hD, hz4⟩ := hR4
  have z4 := z3.trans hz4 (fun _ _ h => h)
  refine wpList_done ?_
  exact end_n (fn := Try.f56) (R := fun w' => ∃ D, Goal 0 n d D ∧ RowD w' g cap n D ∧ OnlyB (fun i => i = g) w w') s4 rfl ⟨D, hgo, hD, z4⟩
/-- A sorted permutation: it rises, and holds what was there. -/
theorem Goal.sorted {n : Nat} {d D : Array Int} (h : Goal 0 n d D) (hn : d.size = n) : D.size = n ∧ D.toList.Perm d.toList ∧ ∀ i j, i < j → j < n → D[i]! ≤ D[j]! := by
  obtain ⟨⟨h1, h2, h3⟩, h4⟩ := h
  refine ⟨h1.trans hn, ?_, fun i j hij hj => ?_⟩
  · have e1 : D.extract 0 n = D := by rw [← hn, ← h1]; exact Array.extract_size
    have e2 : d.extract 0 n = d := by rw [← hn]; exact Array.extract_size
    rwa [e1, e2] at h3
  · have := h4 i j (by omega) hij hj
    simpa [Go.Sort.ltInt] using this

end Go.Proofs.Ytbeeiecbbmiojaa.Y
