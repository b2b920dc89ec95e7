/- Ylabn: labels' bytes tell these labels, and no fewer or more bytes do -/
import Derived.Test.YtihddficgpjgpaaYonly
namespace Go.Proofs.Ytihddficgpjgpaa.Y
open Go.RowKit Go.ChangeShapes Go.WideShapes Go.ChangeAt

theorem drop_ok {bs p r : List Int} {k : Nat} (h : bs.drop k = p ++ r) (hp : 0 < p.length) : k + p.length ≤ bs.length ∧ (bs.drop k).take p.length = p ∧ bs.drop (k + p.length) = r := by
  have h1 := congrArg List.length h
  rw [List.length_drop, List.length_append] at h1
  refine ⟨by omega, by rw [h, List.take_left], by rw [← List.drop_drop, h, List.drop_left]⟩
theorem nx_put {bs r : List Int} {k n : Nat} {x : Int} (h : bs.drop k = Pk.putL n x ++ r) (hn : 0 < n) (hx : 0 ≤ x ∧ x < 256 ^ n) : nx bs (k, false) n = (x, (k + n, false)) ∧ bs.drop (k + n) = r := by
  obtain ⟨h1, h2, h3⟩ := drop_ok h (by rw [Pk.putL_length]; exact hn)
  rw [Pk.putL_length] at h1 h2 h3
  refine ⟨?_, h3⟩
  unfold nx
  rw [if_pos ⟨rfl, h1⟩, h2, Pk.numL_putL, Int.emod_eq_of_lt hx.1 hx.2]
theorem nx_put1 {bs r : List Int} {k : Nat} {x : Int} (h : bs.drop k = IntKind.u8.wrap x :: r) (hx : 0 ≤ x ∧ x < 256) : nx bs (k, false) 1 = (x, (k + 1, false)) ∧ bs.drop (k + 1) = r := by
  have e : Pk.putL 1 x = [IntKind.u8.wrap x] := by
    show [x / 256 ^ 0 % 256] = _
    rw [u8_id hx]
    simp
    omega
  exact nx_put (n := 1) (by rw [e]; exact h) (by decide) hx
theorem rdP_put {bs : List Int} : ∀ {ps : List (Int × Int)} {k : Nat} {acc : List (Int × Int)} {r : List Int}, (∀ p ∈ ps, (0 ≤ p.1 ∧ p.1 < 4294967296) ∧ 0 ≤ p.2 ∧ p.2 < 256) → bs.drop k = ps.flatMap pairB ++ r → rdP bs ps.length (k, false) acc = (acc ++ ps, (k + 5 * ps.length, false)) ∧ bs.drop (k + 5 * ps.length) = r
  | [], k, acc, r, _, h => ⟨by simp [rdP], h⟩
  | p :: ps, k, acc, r, hs, h => by
    have hp := hs p List.mem_cons_self
    have e : IntKind.u64.wrap p.1 = p.1 := by rw [IntKind.wrap_u64]; omega
    have h' : bs.drop k = Pk.putL 4 p.1 ++ (IntKind.u8.wrap p.2 :: (ps.flatMap pairB ++ r)) := by
      rw [h, List.flatMap_cons, pairB, e]
      simp only [List.append_assoc, List.cons_append, List.nil_append]
    obtain ⟨h1, h2⟩ := nx_put h' (by decide) hp.1
    obtain ⟨h3, h4⟩ := nx_put1 h2 hp.2
    rw [List.length_cons, rdP_go rfl, h1]
    simp only
    rw [h3]
    simp only
    obtain ⟨h5, h6⟩ := rdP_put (acc := acc ++ [(p.1, p.2)]) (fun q hq => hs q (List.mem_cons_of_mem _ hq)) h4
    rw [h5, show k + 5 * (ps.length + 1) = k + 4 + 1 + 5 * ps.length by omega]
    exact ⟨by rw [List.append_assoc]; rfl, h6⟩
/-- A label that its bytes tell. -/
structure Tell (l : Lab) : Prop where
  small : Small l
  right : rightB l = true
  len : l.ps.length ≤ 12
theorem labX_put {bs r : List Int} {k : Nat} {l : Lab} (hl : Tell l) (h : bs.drop k = labB l ++ r) : labX bs (k, false) = (l, (k + (labB l).length, false)) ∧ bs.drop (k + (labB l).length) = r := by
  have h' : bs.drop k = IntKind.u8.wrap l.d :: (IntKind.u8.wrap (l.ps.length : Int) :: (l.ps.flatMap pairB ++ r)) := by
    rw [h, labB]
    simp only [List.cons_append, List.nil_append]
  have hlen := hl.len
  obtain ⟨h1, h2⟩ := nx_put1 h' hl.small.d
  obtain ⟨h3, h4⟩ := nx_put1 h2 (show (0 : Int) ≤ (l.ps.length : Int) ∧ (l.ps.length : Int) < 256 by omega)
  obtain ⟨h5, h6⟩ := rdP_put (acc := []) hl.small.ps h4
  have eS : labS bs (k, false) = (k + 1 + 1, false) := by
    unfold labS
    rw [h1]
    simp only
    rw [h3]
    simp only
    rw [if_neg (by omega)]
  have eN : (nx bs (nx bs (k, false) 1).2 1).1.toNat = l.ps.length := by
    rw [h1]; simp only; rw [h3]; simp
  rw [labB_len, show k + (2 + 5 * l.ps.length) = k + 1 + 1 + 5 * l.ps.length by omega]
  refine ⟨?_, h6⟩
  unfold labX
  rw [eN, eS, h5, h1]
  simp only [List.nil_append]
  rw [if_neg (by rw [show (⟨l.d, l.ps⟩ : Lab) = l from rfl, hl.right]; simp)]
theorem labsP_put {bs : List Int} : ∀ {ls : List Lab} {k : Nat} {acc : List Lab} {r : List Int}, (∀ l ∈ ls, Tell l) → bs.drop k = labsB ls ++ r → labsP bs ls.length (k, false) acc = (acc ++ ls, (k + (labsB ls).length, false))
  | [], k, acc, r, _, _ => by simp [labsP, labsB]
  | l :: ls, k, acc, r, hs, h => by
    have h' : bs.drop k = labB l ++ (labsB ls ++ r) := by rw [h]; simp [labsB]
    obtain ⟨h1, h2⟩ := labX_put (hs l List.mem_cons_self) h'
    rw [List.length_cons, labsP, h1]
    simp only
    rw [labsP_put (fun q hq => hs q (List.mem_cons_of_mem _ hq)) h2, show labsB (l :: ls) = labB l ++ labsB ls by simp [labsB], List.length_append, Nat.add_assoc]
    simp
theorem labsB_ge : ∀ ls : List Lab, 2 * ls.length ≤ (labsB ls).length
  | [] => by simp
  | l :: ls => by
    have := labsB_ge ls
    rw [show labsB (l :: ls) = labB l ++ labsB ls by simp [labsB], List.length_append, labB_len, List.length_cons]
    omega
theorem back_1 {ls : List Lab} (hs : ∀ l ∈ ls, Tell l) : labsV (labsB ls) ls.length = (ls, 0) := by
  have h := labsB_ge ls
  have hE : labsE (labsB ls) ls.length = (ls, ((labsB ls).length, false)) := by
    unfold labsE
    rw [Nat.min_eq_left (by omega), labsP_put (r := []) hs (by simp), List.nil_append, Nat.zero_add]
  unfold labsV
  rw [hE]
  simp
theorem tell_of {l : Lab} (h : rightB l = true) (h12 : l.ps.length ≤ 12) : Tell l := by
  have h0 := h
  unfold rightB at h
  simp only [Bool.and_eq_true, decide_eq_true_eq] at h
  obtain ⟨h1, h2, h3, h4⟩ := h
  obtain ⟨g1, g2⟩ := rightP_good l.d h4
  exact ⟨⟨by omega, by omega, fun p hp => by
    have := g2 p hp
    have := Rise.lt g1 p hp
    omega⟩, h0, h12⟩
theorem labB_pre {a b : Lab} (ha : Tell a) (hb : Tell b) {x y : List Int} (h : labB a ++ x = labB b ++ y) : a = b ∧ x = y := by
  have e : a = b := by
    refine lab_prefix ha.small hb.small rfl ?_
    have h2 := congrArg (List.take (min (labB a).length (labB b).length)) h
    rwa [List.take_append_of_le_length (by omega), List.take_append_of_le_length (by omega)] at h2
  subst e
  exact ⟨rfl, List.append_cancel_left h⟩
theorem labsB_pre : ∀ {ls ms : List Lab} {x y : List Int}, (∀ l ∈ ls, Tell l) → (∀ l ∈ ms, Tell l) → ls.length ≤ ms.length → labsB ls ++ x = labsB ms ++ y → ∃ t, ms = ls ++ t ∧ x = labsB t ++ y
  | [], ms, x, y, _, _, _, h => ⟨ms, rfl, h⟩
  | a :: ls, [], x, y, _, _, hl, _ => by simp at hl
  | a :: ls, b :: ms, x, y, h1, h2, hl, h => by
    have h' : labB a ++ (labsB ls ++ x) = labB b ++ (labsB ms ++ y) := by simpa [labsB] using h
    obtain ⟨rfl, h3⟩ := labB_pre (h1 a List.mem_cons_self) (h2 b List.mem_cons_self) h'
    obtain ⟨t, h4, h5⟩ := labsB_pre (fun q hq => h1 q (List.mem_cons_of_mem _ hq)) (fun q hq => h2 q (List.mem_cons_of_mem _ hq)) (by simpa using hl) h3
    exact ⟨t, by rw [h4]; rfl, h5⟩
theorem back_no {bs : List Int} {n : Nat} (hB : Pk.Byt bs) (hn : ∀ ms : List Lab, ms.length = n → (∀ l ∈ ms, Tell l) → labsB ms ≠ bs) : (labsV bs n).2 = 10 := Classical.byContradiction fun h => by
  obtain ⟨_, h1, h2, h3⟩ := labsV_ok hB h
  exact hn _ h1 (fun l hl => tell_of (h2 l hl).1 (h2 l hl).2) h3
theorem back_2 {ls : List Lab} (hs : ∀ l ∈ ls, Tell l) : (labsV (labsB ls ++ [0]) ls.length).2 = 10 := back_no (byt_app (labsB_byt ls) (fun x hx => by rw [List.mem_singleton.1 hx]; decide)) fun ms h1 h2 h3 => by
  obtain ⟨t, h4, h5⟩ := labsB_pre (x := [0]) (y := []) hs h2 (by omega) (by rw [h3, List.append_nil])
  rw [h4, List.length_append] at h1
  obtain rfl : t = [] := List.eq_nil_of_length_eq_zero (by omega)
  cases h5
theorem back_3 {ls : List Lab} (hs : ∀ l ∈ ls, Tell l) : (labsV (labsB ls) (ls.length + 1)).2 = 10 := back_no (labsB_byt ls) fun ms h1 h2 h3 => by
  obtain ⟨t, h4, h5⟩ := labsB_pre (x := []) (y := []) hs h2 (by omega) (by rw [h3])
  rw [h4, List.length_append] at h1
  have h6 := congrArg List.length h5
  rw [List.append_nil] at h6
  have := labsB_ge t
  simp only [List.length_nil] at h6
  omega
theorem back_4 {ls : List Lab} (hs : ∀ l ∈ ls, Tell l) (hp : 0 < (labsB ls).length) : (labsV ((labsB ls).take ((labsB ls).length - 1)) ls.length).2 = 10 := back_no (byt_take (labsB_byt ls) _) fun ms h1 h2 h3 => by
  obtain ⟨t, h4, h5⟩ := labsB_pre (x := (labsB ls).drop ((labsB ls).length - 1)) (y := []) h2 hs (by omega) (by rw [h3, List.take_append_drop, List.append_nil])
  rw [h4, List.length_append] at h1
  obtain rfl : t = [] := List.eq_nil_of_length_eq_zero (by omega)
  have h6 := congrArg List.length h5
  rw [List.length_drop] at h6
  simp [labsB] at h6
  simp [labsB] at hp
  omega

end Go.Proofs.Ytihddficgpjgpaa.Y
