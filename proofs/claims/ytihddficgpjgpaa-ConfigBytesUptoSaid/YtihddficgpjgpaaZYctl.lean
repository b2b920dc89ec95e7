/- Yctl: a configuration that may be is told by its bytes -/
import Derived.Test.YtihddficgpjgpaaZYenc2
namespace Go.Proofs.Ytihddficgpjgpaa.Y
open Go.RowKit Go.ChangeShapes Go.WideShapes Go.ChangeAt
theorem maps_each : ∀ {l : List M} {e : Int}, mapsFrom e l = true → ∀ m ∈ l, fitsB m = true
  | [], _, _, _, h => by cases h
  | x :: t, e, h, m, hm => by
    rw [mapsFrom, Bool.and_eq_true, Bool.and_eq_true] at h
    rcases List.mem_cons.1 hm with rfl | hm
    · exact h.1.1
    · exact maps_each h.2 m hm
theorem tell_map {n : Nat} {m : M} (hn : n ≤ 64) (h : fitsB m = true) (hs : segB n m = true) (h0 : 0 ≤ m.sg) : TellM m := by
  unfold fitsB at h
  rw [decide_eq_true_eq] at h
  unfold segB at hs
  rw [Bool.not_eq_true', decide_eq_false_iff_not, IntKind.wrap_u64] at hs
  exact ⟨⟨by omega, by omega⟩, ⟨h0, by omega⟩, ⟨by omega, by omega⟩, ⟨by omega, by omega⟩⟩
theorem right_tell {l : Lab} (h : rightB l = true) : Tell l := by
  have h0 := h
  unfold rightB at h
  simp only [Bool.and_eq_true, decide_eq_true_eq] at h
  exact tell_of h0 h.2.2.1
theorem home_par {c : Cf} {i : Nat} {o : Ob} (h : (homeB c i o).2 = true) : 0 ≤ o.par ∧ o.par ≤ (i : Int) := by
  by_cases h0 : o.par = 0
  · omega
  · by_cases hp : 1 ≤ o.par ∧ o.par ≤ (i : Int)
    · omega
    · rw [home_no h0 hp] at h; cases h
theorem tell_ob {c : Cf} {i : Nat} {o : Ob} (hc : obK o = o) (hB : Pk.Byt o.dat) (hsg : ∀ m ∈ o.mps, 0 ≤ m.sg) (hn : c.obs.length ≤ 64) (hi : i < c.obs.length) (h : okB c i o = true) : TellO o := by
  unfold okB at h
  split at h
  · cases h
  rename_i h1
  rw [Bool.not_eq_true, Bool.or_eq_false_iff, Bool.or_eq_false_iff, Bool.not_eq_false', Bool.not_eq_false'] at h1
  have hp := home_par h1.1.1
  have hl := right_tell h1.1.2
  clear h1
  obtain ⟨k, par, lab, clr, pg, nm, dat, mps, sp, pc⟩ := o
  simp only at *
  by_cases k1 : k = 1
  · subst k1
    simp only [obK, if_true, Ob.mk.injEq, true_and] at hc
    obtain ⟨rfl, rfl, rfl, rfl, rfl⟩ := hc
    simp only [beq_self_eq_true, if_true, Bool.and_eq_true, decide_eq_true_eq] at h
    refine ⟨⟨by show (0 : Int) ≤ 1; decide, by show (1 : Int) < 256; decide⟩, ⟨hp.1, by show par < 256; omega⟩, hl, ?_⟩
    show okBd 1 _
    unfold okBd
    rw [if_pos rfl]
    exact ⟨⟨⟨h.1.1.1.2, by show pg < 65536; omega⟩, ⟨h.1.2, by show nm < 4294967296; omega⟩⟩, rfl⟩
  by_cases k2 : k = 2
  · subst k2
    simp [obK] at hc
    obtain ⟨rfl, rfl, rfl, rfl, rfl⟩ := hc
    simp [IntKind.wrap_i64] at h
    refine ⟨⟨by show (0 : Int) ≤ 2; decide, by show (2 : Int) < 256; decide⟩, ⟨hp.1, by show par < 256; omega⟩, hl, ?_⟩
    show okBd 2 _
    unfold okBd
    rw [if_neg (by decide), if_pos rfl]
    exact ⟨⟨⟨h.1.1.2, by show pg < 256; omega⟩, ⟨by show (0 : Int) ≤ dat.length; omega, by show (dat.length : Int) < 65536; omega⟩, hB⟩, rfl⟩
  by_cases k4 : k = 4
  · subst k4
    simp [obK] at hc
    obtain ⟨rfl, rfl, rfl, rfl, rfl, rfl⟩ := hc
    simp only [show ((4 : Int) == 1) = false from rfl, show ((4 : Int) == 2) = false from rfl, beq_self_eq_true, if_true, Bool.false_eq_true, if_false, Bool.and_eq_true] at h
    refine ⟨⟨by show (0 : Int) ≤ 4; decide, by show (4 : Int) < 256; decide⟩, ⟨hp.1, by show par < 256; omega⟩, hl, ?_⟩
    show okBd 4 _
    unfold okBd
    rw [if_neg (by decide), if_neg (by decide), if_pos rfl]
    have hm := h.1.2
    unfold mapsB at hm
    rw [Bool.and_eq_true, decide_eq_true_eq] at hm
    rw [List.all_eq_true] at h
    exact ⟨⟨⟨by show (0 : Int) ≤ mps.length; omega, by show (mps.length : Int) < 256; omega⟩, fun m hm' => tell_map hn (maps_each hm.1 m hm') (h.2 m hm') (hsg m hm')⟩, rfl⟩
  have three : ∀ (q : Int), q = 3 ∨ q = 5 → k = q → (((((rightB clr && leqB lab clr) && decide (0 ≤ pc)) && decide (pc < 262144)) && decide (0 ≤ sp)) && decide (sp ≤ (c.obs.length : Int))) = true → TellO ⟨k, par, lab, clr, pg, nm, dat, mps, sp, pc⟩ := fun q hq hk h35 => by
    have hq' : k = 3 ∨ k = 5 := by omega
    unfold obK at hc
    rw [if_neg k1, if_neg k2, if_neg k4, if_pos hq'] at hc
    simp only [Ob.mk.injEq, true_and, and_true] at hc
    obtain ⟨rfl, rfl, rfl, rfl⟩ := hc
    simp only [Bool.and_eq_true, decide_eq_true_eq] at h35
    refine ⟨⟨by show (0 : Int) ≤ k; omega, by show k < 256; omega⟩, ⟨hp.1, by show par < 256; omega⟩, hl, ?_⟩
    show okBd k _
    unfold okBd
    rw [if_neg k1, if_neg k2, if_neg k4, if_pos hq']
    exact ⟨⟨right_tell h35.1.1.1.1.1, ⟨h35.1.2, by show sp < 256; omega⟩, ⟨h35.1.1.1.2, by show pc < 4294967296; omega⟩⟩, rfl⟩
  rw [if_neg (by simpa using k1), if_neg (by simpa using k2), if_neg (by simpa using k4)] at h
  by_cases k3 : k = 3
  · rw [if_pos (by simpa using k3)] at h
    exact three 3 (.inl rfl) k3 h
  rw [if_neg (by simpa using k3)] at h
  by_cases k5 : k = 5
  · rw [if_pos (by simpa using k5)] at h
    exact three 5 (.inr rfl) k5 h
  rw [if_neg (by simpa using k5)] at h
  by_cases k6 : k = 6
  · have h35 : ¬ (k = 3 ∨ k = 5) := fun h => h.elim k3 k5
    unfold obK at hc
    rw [if_neg k1, if_neg k2, if_neg k4, if_neg h35] at hc
    simp only [Ob.mk.injEq, true_and] at hc
    obtain ⟨rfl, rfl, rfl, rfl, rfl, rfl, rfl⟩ := hc
    refine ⟨⟨by show (0 : Int) ≤ k; omega, by show k < 256; omega⟩, ⟨hp.1, by show par < 256; omega⟩, hl, ?_⟩
    show okBd k _
    unfold okBd
    rw [if_neg k1, if_neg k2, if_neg k4, if_neg h35, if_pos k6]
    rfl
  · rw [if_neg (by simpa using k6)] at h
    cases h
/-- A configuration that may be is told by its bytes. -/
theorem tell_cf {c : Cf} (hc : ∀ o ∈ c.obs, obK o = o) (hB : ∀ o ∈ c.obs, Pk.Byt o.dat) (hsg : ∀ o ∈ c.obs, ∀ m ∈ o.mps, 0 ≤ m.sg) (hs0 : ∀ s ∈ c.sl, 0 ≤ s.1) (h : rightC c = true) : TellC c := by
  unfold rightC at h
  split at h
  · cases h
  rename_i h1
  simp only [Bool.not_eq_true, Bool.or_eq_false_iff, decide_eq_false_iff_not, Bool.not_eq_false'] at h1
  obtain ⟨⟨⟨⟨⟨⟨⟨c1, c2⟩, f1⟩, f2⟩, n1⟩, n2⟩, ho⟩, hs⟩ := h1
  unfold slotsB at hs
  simp only [Bool.and_eq_true, decide_eq_true_eq, List.all_eq_true] at hs h
  refine ⟨⟨by omega, by omega⟩, ⟨by omega, by omega⟩, ⟨by omega, by omega⟩, ⟨by omega, by omega⟩, fun s hm => ?_, ⟨by omega, by omega⟩, fun o hm => ?_⟩
  · have a1 := hs.1 s hm
    have a2 := h.1 s hm
    unfold slotB at a1
    unfold sameN at a2
    simp only [Bool.not_eq_true', Bool.or_eq_false_iff, decide_eq_false_iff_not, IntKind.wrap_u64] at a1 a2
    exact ⟨⟨hs0 s hm, by omega⟩, ⟨by omega, by omega⟩⟩
  · obtain ⟨i, hi, rfl⟩ := List.getElem_of_mem hm
    have a1 := h.2 i (List.mem_range.2 hi)
    unfold okAt at a1
    rw [List.getElem?_eq_getElem hi] at a1
    exact tell_ob (hc _ hm) (hB _ hm) (hsg _ hm) (by omega) hi a1
theorem obK_obK (o : Ob) : obK (obK o) = obK o := by
  by_cases k1 : o.k = 1
  · simp [obK, k1]
  by_cases k2 : o.k = 2
  · simp [obK, k2]
  by_cases k4 : o.k = 4
  · simp [obK, k4]
  by_cases k3 : o.k = 3 ∨ o.k = 5
  · have e : obK o = ⟨o.k, o.par, o.lab, o.clr, 0, 0, [], [], o.sp, o.pc⟩ := by unfold obK; rw [if_neg k1, if_neg k2, if_neg k4, if_pos k3]
    rw [e]
    unfold obK
    simp only
    rw [if_neg k1, if_neg k2, if_neg k4, if_pos k3]
  · have e : obK o = ob0 o := by unfold obK; rw [if_neg k1, if_neg k2, if_neg k4, if_neg k3]
    rw [e]
    unfold obK ob0
    simp only
    rw [if_neg k1, if_neg k2, if_neg k4, if_neg k3]
theorem obK_dat {o : Ob} {x : Int} (h : x ∈ (obK o).dat) : x ∈ o.dat := by
  unfold obK at h
  repeat' split at h
  all_goals first | exact h | cases h
/-- What a plan gives, if it may be, is told by its bytes. -/
theorem tell_plan {c : Cf} (h : okCB 1048576 c) (hL : lightB c = true) (hr : rightC (planC c) = true) : TellC (planC c) := by
  obtain ⟨_, _, _, hsg⟩ := plan_facts h hL
  refine tell_cf (fun o ho => ?_) (fun o ho => ?_) hsg (fun s hs => ?_) hr
  · obtain ⟨p, _, rfl⟩ := List.mem_map.1 ho
    exact obK_obK p
  · obtain ⟨p, hp, rfl⟩ := List.mem_map.1 ho
    exact fun x hx => byt_wf (h.2.2.2.2.2.2 p hp).2.2.2.2.2.2.1.2.2 x (obK_dat hx)
  · have := (h.2.2.2.1.2.2 s hs).1
    simp [Lit.wf, IntKind.min, IntKind.max, IntKind.signed, IntKind.bits] at this
    omega
theorem bd_len {c : Cf} {i : Nat} {o : Ob} (hT : TellO o) (h : okB c i o = true) : (obB o).length ≤ 1200 := by
  have hO := okb_of hT
  have hl := hT.lab.len
  unfold okB at h
  split at h
  · cases h
  unfold obB
  simp only [List.length_append, Pk.putL_length, labB_len]
  unfold bdB
  by_cases k1 : o.k = 1
  · rw [if_pos k1]
    simp only [List.length_append, Pk.putL_length]; omega
  rw [if_neg k1]
  rw [if_neg (by simpa using k1)] at h
  by_cases k2 : o.k = 2
  · rw [if_pos k2]
    rw [if_pos (by simpa using k2)] at h
    simp only [Bool.and_eq_true, decide_eq_true_eq, IntKind.wrap_i64] at h
    simp only [List.length_append, Pk.putL_length, obTup]; omega
  rw [if_neg k2]
  rw [if_neg (by simpa using k2)] at h
  by_cases k4 : o.k = 4
  · rw [if_pos k4]
    rw [if_pos (by simpa using k4)] at h
    simp only [Bool.and_eq_true] at h
    have hm := h.1.2
    unfold mapsB at hm
    simp only [Bool.and_eq_true, decide_eq_true_eq] at hm
    simp only [List.length_append, Pk.putL_length, mapsB_length, obTup]; omega
  rw [if_neg k4]
  split
  · rename_i h3
    have := (hO.b3 h3).1.len
    simp only [List.length_append, Pk.putL_length, labB_len, obTup]; omega
  · simp; omega
theorem flat_len {α : Type} {f : α → List Int} {n : Nat} : ∀ {l : List α}, (∀ x ∈ l, (f x).length ≤ n) → (l.flatMap f).length ≤ n * l.length
  | [], _ => by simp
  | x :: t, h => by
    have h1 := h x List.mem_cons_self
    have h2 := flat_len (fun y hy => h y (List.mem_cons_of_mem _ hy))
    rw [List.flatMap_cons, List.length_append, List.length_cons, Nat.mul_succ]
    omega
theorem cf_len {c : Cf} (hT : TellC c) (h : rightC c = true) : (cfB c).length ≤ 100000 := by
  unfold rightC at h
  split at h
  · cases h
  rename_i h1
  simp only [Bool.not_eq_true, Bool.or_eq_false_iff, decide_eq_false_iff_not, Bool.not_eq_false'] at h1
  obtain ⟨⟨_, ho⟩, hs⟩ := h1
  unfold slotsB at hs
  simp only [Bool.and_eq_true, decide_eq_true_eq, List.all_eq_true] at hs h
  have h2 : (c.obs.flatMap obB).length ≤ 1200 * c.obs.length := flat_len fun o hm => by
    obtain ⟨i, hi, rfl⟩ := List.getElem_of_mem hm
    have a1 := h.2 i (List.mem_range.2 hi)
    unfold okAt at a1
    rw [List.getElem?_eq_getElem hi] at a1
    exact bd_len (hT.obs _ hm) a1
  unfold cfB
  simp only [List.length_append, Pk.putL_length, slsB_length]
  omega
end Go.Proofs.Ytihddficgpjgpaa.Y
