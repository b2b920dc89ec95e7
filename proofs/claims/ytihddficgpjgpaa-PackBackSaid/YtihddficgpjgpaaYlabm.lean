/- Ylabm: what bytes tell labels: these labels' own -/
import Derived.Test.YtihddficgpjgpaaYlabs
namespace Go.Proofs.Ytihddficgpjgpaa.Y
open Go.RowKit Go.ChangeShapes Go.WideShapes Go.ChangeAt

theorem putL_numL : ∀ {n : Nat} {l : List Int}, l.length = n → Pk.Byt l → Pk.putL n (Pk.numL l) = l := by
  intro n
  induction n with
  | zero => intro l hl _; rw [List.eq_nil_of_length_eq_zero hl]; rfl
  | succ n ih =>
    intro l hl hB
    match l, hl, hB with
    | b :: t, hl, hB =>
      have ht : t.length = n := by simpa using hl
      have hBt : Pk.Byt t := fun x hx => hB x (List.mem_cons_of_mem _ hx)
      have hb := hB b List.mem_cons_self
      have hbd := Pk.numL_bd n t ht hBt
      have gen : ∀ (t : List Int) (x : Int), t.foldl (fun x b => x * 256 + b) x = x * 256 ^ t.length + t.foldl (fun x b => x * 256 + b) 0 := by
        intro t
        induction t with
        | nil => intro x; simp
        | cons c t ih => intro x; rw [List.foldl_cons, List.foldl_cons, ih, ih (0 * 256 + c), List.length_cons, Int.pow_succ]; rw [Int.zero_mul, Int.zero_add, Int.add_mul, Int.mul_assoc, Int.mul_comm 256]; omega
      have e : Pk.numL (b :: t) = b * 256 ^ n + Pk.numL t := by
        show (b :: t).foldl (fun x b => x * 256 + b) 0 = _
        rw [List.foldl_cons, gen t, ht, Int.zero_mul, Int.zero_add]
        rfl
      have hp : (0 : Int) < 256 ^ n := Int.pow_pos (by omega)
      show Pk.numL (b :: t) / 256 ^ n % 256 :: Pk.putL n (Pk.numL (b :: t)) = b :: t
      have e1 : Pk.numL (b :: t) / 256 ^ n = b := by
        rw [e, Int.add_comm, Int.add_mul_ediv_right _ _ (by omega), Int.ediv_eq_zero_of_lt hbd.1 hbd.2]; omega
      have e2 : Pk.putL n (Pk.numL (b :: t)) = Pk.putL n (Pk.numL t) := by
        rw [e]
        have : ∀ (k : Nat), k ≤ n → Pk.putL k (b * 256 ^ n + Pk.numL t) = Pk.putL k (Pk.numL t) := by
          intro k
          induction k with
          | zero => intro _; rfl
          | succ k ihk =>
            intro hk
            show (b * 256 ^ n + Pk.numL t) / 256 ^ k % 256 :: Pk.putL k (b * 256 ^ n + Pk.numL t) = Pk.numL t / 256 ^ k % 256 :: Pk.putL k (Pk.numL t)
            rw [ihk (by omega)]
            have h2 : (256 : Int) ^ n = 256 ^ (n - k - 1) * 256 * 256 ^ k := by rw [← Int.pow_succ, ← Int.pow_add]; congr 1; omega
            have hpk : (256 : Int) ^ k ≠ 0 := Int.pow_ne_zero (by omega)
            rw [h2, ← Int.mul_assoc, Int.add_comm, Int.add_mul_ediv_right _ _ hpk, ← Int.mul_assoc, Int.add_mul_emod_self_right]
        exact this n (Nat.le_refl _)
      rw [e1, e2, ih ht hBt]
      congr 1
      omega
theorem nx_true (bs : List Int) (k n : Nat) : nx bs (k, true) n = (0, (k, true)) := by unfold nx; rw [if_neg (by simp)]
theorem nx_ok {bs : List Int} (hB : Pk.Byt bs) {s : Nat × Bool} {n : Nat} (h : (nx bs s n).2.2 = false) : s.2 = false ∧ s.1 + n ≤ bs.length ∧ (nx bs s n).2 = (s.1 + n, false) ∧ bs.drop s.1 = Pk.putL n (nx bs s n).1 ++ bs.drop (s.1 + n) := by
  by_cases hc : s.2 = false ∧ s.1 + n ≤ bs.length
  · have e : nx bs s n = (Pk.numL ((bs.drop s.1).take n), (s.1 + n, false)) := by unfold nx; rw [if_pos hc]
    rw [e]
    refine ⟨hc.1, hc.2, rfl, ?_⟩
    rw [putL_numL (by simp; omega) (byt_take (byt_drop hB _) _), ← List.drop_drop, List.take_append_drop]
  · unfold nx at h; rw [if_neg hc] at h; cases h
theorem nx_1 {bs : List Int} (hB : Pk.Byt bs) {s : Nat × Bool} (_h : (nx bs s 1).2.2 = false) : Pk.putL 1 (nx bs s 1).1 = [IntKind.u8.wrap (nx bs s 1).1] := by
  have := nx1 hB s
  show [(nx bs s 1).1 / 256 ^ 0 % 256] = _
  rw [u8_id this]
  simp
  omega
theorem nx_le {bs : List Int} {s : Nat × Bool} (hs : s.1 ≤ bs.length) (n : Nat) : (nx bs s n).2.1 ≤ bs.length := by
  unfold nx
  split
  · rename_i h; exact h.2
  · exact hs
theorem rdP_ok {bs : List Int} (hB : Pk.Byt bs) : ∀ {m : Nat} {s : Nat × Bool} {acc : List (Int × Int)}, s.1 ≤ bs.length → (rdP bs m s acc).2.2 = false → s.2 = false ∧ ∃ ps, (rdP bs m s acc).1 = acc ++ ps ∧ ps.length = m ∧ (rdP bs m s acc).2.1 ≤ bs.length ∧ bs.drop s.1 = ps.flatMap pairB ++ bs.drop (rdP bs m s acc).2.1
  | 0, s, acc, hs, h => ⟨h, [], by simp [rdP], rfl, hs, rfl⟩
  | m + 1, s, acc, hs, h => by
    cases hb : s.2 with
    | true => rw [rdP_bad hb] at h; rw [hb] at h; cases h
    | false =>
      rw [rdP_go hb] at h ⊢
      have hs2 := nx_le (nx_le hs 4) 1
      obtain ⟨h1, ps, h2, h3, h4, h5⟩ := rdP_ok hB hs2 h
      obtain ⟨g1, g2, g3, g4⟩ := nx_ok hB h1
      obtain ⟨f1, f2, f3, f4⟩ := nx_ok hB g1
      refine ⟨rfl, ((nx bs s 4).1, (nx bs (nx bs s 4).2 1).1) :: ps, by rw [h2, List.append_assoc]; rfl, by simp [h3], h4, ?_⟩
      have e4 : (nx bs s 4).2.1 = s.1 + 4 := by rw [f3]
      have e5 : (nx bs (nx bs s 4).2 1).2.1 = s.1 + 4 + 1 := by rw [g3, f3]
      generalize rdP bs m (nx bs (nx bs s 4).2 1).2 (acc ++ [((nx bs s 4).1, (nx bs (nx bs s 4).2 1).1)]) = R at h2 h4 h5 ⊢
      rw [nx_1 hB h1, e4] at g4
      rw [e5] at h5
      have b4 := nx4 hB s
      have ep : pairB ((nx bs s 4).1, (nx bs (nx bs s 4).2 1).1) = Pk.putL 4 (nx bs s 4).1 ++ [IntKind.u8.wrap (nx bs (nx bs s 4).2 1).1] := by
        unfold pairB
        rw [show IntKind.u64.wrap (nx bs s 4).1 = (nx bs s 4).1 by rw [IntKind.wrap_u64]; omega]
      rw [f4, g4, h5, List.flatMap_cons, ep]
      simp only [List.append_assoc]
theorem labX_ok {bs : List Int} (hB : Pk.Byt bs) {s : Nat × Bool} (hs : s.1 ≤ bs.length) (h : (labX bs s).2.2 = false) : s.2 = false ∧ rightB (labX bs s).1 = true ∧ (labX bs s).1.ps.length ≤ 12 ∧ (labX bs s).2.1 ≤ bs.length ∧ bs.drop s.1 = labB (labX bs s).1 ++ bs.drop (labX bs s).2.1 := by
  unfold labX at h ⊢
  split at h
  · cases h
  · rename_i hc
    rw [if_neg hc]
    simp only
    have h1 : (rdP bs (nx bs (nx bs s 1).2 1).1.toNat (labS bs s) []).2.2 = false := by
      cases hh : (rdP bs (nx bs (nx bs s 1).2 1).1.toNat (labS bs s) []).2.2 with
      | true => exact absurd (.inl hh) hc
      | false => rfl
    have h2 : rightB ⟨(nx bs s 1).1, (rdP bs (nx bs (nx bs s 1).2 1).1.toNat (labS bs s) []).1⟩ = true := by
      cases hh : rightB ⟨(nx bs s 1).1, (rdP bs (nx bs (nx bs s 1).2 1).1.toNat (labS bs s) []).1⟩ with
      | false => exact absurd (.inr hh) hc
      | true => rfl
    have hs1 : (nx bs s 1).2.1 ≤ bs.length := by
      unfold nx; split
      · rename_i h2; exact h2.2
      · exact hs
    have hs2 : (nx bs (nx bs s 1).2 1).2.1 ≤ bs.length := by
      rw [nx]; split
      · rename_i h2; exact h2.2
      · exact hs1
    have hsL : (labS bs s).1 ≤ bs.length := by unfold labS; split <;> exact hs2
    obtain ⟨h3, ps, h4, h5, h6, h7⟩ := rdP_ok hB hsL h1
    have hn : ¬ 12 < (nx bs (nx bs s 1).2 1).1 := fun hn => by unfold labS at h3; rw [if_pos hn] at h3; cases h3
    have eS : labS bs s = (nx bs (nx bs s 1).2 1).2 := by unfold labS; rw [if_neg hn]
    rw [eS] at h3 h7
    obtain ⟨g1, g2, g3, g4⟩ := nx_ok hB h3
    obtain ⟨f1, f2, f3, f4⟩ := nx_ok hB g1
    rw [nx_1 hB h3] at g4
    rw [nx_1 hB g1] at f4
    have hb := nx1 hB (nx bs s 1).2
    rw [List.nil_append] at h4
    have hl : (ps.length : Int) = (nx bs (nx bs s 1).2 1).1 := by rw [h5]; omega
    refine ⟨f1, h2, by rw [h4]; omega, h6, ?_⟩
    rw [← eS] at h7
    rw [h4] at *
    rw [f4, show s.1 + 1 = (nx bs s 1).2.1 by rw [f3], g4, show (nx bs s 1).2.1 + 1 = (labS bs s).1 by rw [eS, g3], h7]
    unfold labB
    simp only [List.cons_append, List.nil_append, hl]
def labsB (ls : List Lab) : List Int := ls.flatMap labB
theorem labsP_ok {bs : List Int} (hB : Pk.Byt bs) : ∀ {m : Nat} {s : Nat × Bool} {acc : List Lab}, s.1 ≤ bs.length → (labsP bs m s acc).2.2 = false → s.2 = false ∧ ∃ ls, (labsP bs m s acc).1 = acc ++ ls ∧ ls.length = m ∧ (∀ l ∈ ls, rightB l = true ∧ l.ps.length ≤ 12) ∧ (labsP bs m s acc).2.1 ≤ bs.length ∧ bs.drop s.1 = labsB ls ++ bs.drop (labsP bs m s acc).2.1
  | 0, s, acc, hs, h => ⟨h, [], by simp [labsP], rfl, (fun _ h => by cases h), hs, rfl⟩
  | m + 1, s, acc, hs, h => by
    rw [labsP] at h ⊢
    have hs2 : (labX bs s).2.1 ≤ bs.length := by
      cases hh : (labX bs s).2.2 with
      | false => exact (labX_ok hB hs hh).2.2.2.1
      | true =>
        exfalso
        have : ∀ (m : Nat) (s : Nat × Bool) (acc : List Lab), s.2 = true → (labsP bs m s acc).2.2 = true := by
          intro m
          induction m with
          | zero => intro s acc h; exact h
          | succ m ih =>
            intro s acc h
            rw [labsP]
            refine ih _ _ ?_
            cases h2 : (labX bs s).2.2 with
            | true => rfl
            | false =>
              exfalso
              obtain ⟨k, b⟩ := s
              simp only at h
              subst h
              unfold labX at h2
              split at h2
              · cases h2
              · rename_i hc
                refine hc (.inl ?_)
                have e : (labS bs (k, true)).2 = true := by unfold labS; rw [nx_true, nx_true]; split <;> rfl
                rw [rdP_bad e, e]
        rw [this _ _ _ hh] at h
        cases h
    obtain ⟨h1, ls, h2, h3, h4, h5, h6⟩ := labsP_ok hB hs2 h
    obtain ⟨g1, g2, g3, g4, g5⟩ := labX_ok hB hs h1
    refine ⟨g1, (labX bs s).1 :: ls, by rw [h2, List.append_assoc]; rfl, by simp [h3], fun l hl => ?_, h5, ?_⟩
    · rcases List.mem_cons.1 hl with rfl | hl
      · exact ⟨g2, g3⟩
      · exact h4 l hl
    · rw [g5, h6]; simp only [labsB, List.flatMap_cons, List.append_assoc]
theorem labsV_ok {bs : List Int} (hB : Pk.Byt bs) {n : Nat} (h : (labsV bs n).2 ≠ 10) : (labsV bs n).2 = 0 ∧ (labsV bs n).1.length = n ∧ (∀ l ∈ (labsV bs n).1, rightB l = true ∧ l.ps.length ≤ 12) ∧ labsB (labsV bs n).1 = bs := by
  unfold labsV at h ⊢
  split at h
  · exact absurd rfl h
  · rename_i hc
    rw [if_neg hc]
    have h1 : (labsE bs n).2.2 = false := by
      cases hh : (labsE bs n).2.2 with
      | true => exact absurd (.inl hh) hc
      | false => rfl
    unfold labsE at h1
    obtain ⟨_, ls, h2, h3, h4, h5, h6⟩ := labsP_ok hB (Nat.zero_le _) h1
    rw [List.nil_append] at h2
    have h7 : ¬ (labsE bs n).2.1 < bs.length := fun h => hc (.inr (.inl h))
    have h8 : (labsE bs n).1.length = n := Classical.byContradiction fun h => hc (.inr (.inr h))
    unfold labsE at h7 h8 ⊢
    refine ⟨rfl, h8, by rw [h2]; exact h4, ?_⟩
    rw [h2]
    rw [List.drop_zero, List.drop_of_length_le (by omega), List.append_nil] at h6
    exact h6.symm
theorem labsV_bad {bs : List Int} {n : Nat} (h : (labsV bs n).2 = 10) : (labsV bs n).1 = [] := by
  unfold labsV at h ⊢
  split
  · rfl
  · rename_i hc; rw [if_neg hc] at h; cases h

end Go.Proofs.Ytihddficgpjgpaa.Y
