/- Yplb: plans whose bulk is bounded -/
import Derived.Test.YtihddficgpjgpaaZYplc
import Derived.Test.YtihddficgpjgpaaZYbulk
namespace Go.Proofs.Ytihddficgpjgpaa.Y
open Go.RowKit Go.ChangeShapes Go.WideShapes Go.ChangeAt
def okOB (n : Nat) (o : Ob) : Prop := (Lit.int .i64 o.k).wf = true ∧ (Lit.int .i64 o.par).wf = true ∧ True ∧ True ∧ (Lit.int .i64 o.pg).wf = true ∧ (Lit.int .i64 o.nm).wf = true ∧ (o.dat.length ≤ n ∧ o.dat.length ≤ maxLen ∧ ∀ x ∈ o.dat, (Lit.int .u8 x).wf = true) ∧ (o.mps.length ≤ n ∧ o.mps.length ≤ maxLen ∧ ∀ m ∈ o.mps, okM m) ∧ (Lit.int .i64 o.sp).wf = true ∧ (Lit.int .i64 o.pc).wf = true
def okCB (n : Nat) (c : Cf) : Prop := (Lit.int .i64 c.co).wf = true ∧ (Lit.int .i64 c.fr).wf = true ∧ (Lit.int .i64 c.nm).wf = true ∧ (c.sl.length ≤ n ∧ c.sl.length ≤ maxLen ∧ ∀ s ∈ c.sl, okS s) ∧ (c.obs.length ≤ n ∧ c.obs.length ≤ maxLen ∧ ∀ o ∈ c.obs, okOB n o)
theorem opensB_bytes {n : Nat} : OpensB n Try.prog 22 (Lay.sl byL) (fun l => l.length ≤ n ∧ l.length ≤ maxLen ∧ ∀ x ∈ l, (Lit.int .u8 x).wf = true) := opensB_slice ⟨0⟩ Try.underlying22 (by kernel_rfl) (by decide) (opensB_of (opens_int Try.underlying5))
theorem opensB_maps {n : Nat} : OpensB n Try.prog 65 (Lay.sl mapL) (fun l => l.length ≤ n ∧ l.length ≤ maxLen ∧ ∀ m ∈ l, okM m) := opensB_slice ⟨default⟩ Try.underlying65 (by kernel_rfl) (by decide) (opensB_of opens_mapC)
theorem opensB_slots {n : Nat} : OpensB n Try.prog 53 (Lay.sl slotL) (fun l => l.length ≤ n ∧ l.length ≤ maxLen ∧ ∀ s ∈ l, okS s) := opensB_slice ⟨(0, 0)⟩ Try.underlying53 (by kernel_rfl) (by decide) (opensB_of opens_slotC)
theorem opensB_ob {n : Nat} : OpensB n Try.prog 120 psL (okOB n) := opensB_via (f := fun o : Ob => (o.k, o.par, o.lab, o.clr, o.pg, o.nm, o.dat, o.mps, o.sp, o.pc)) (fun x => (⟨x.1, x.2.1, x.2.2.1, x.2.2.2.1, x.2.2.2.2.1, x.2.2.2.2.2.1, x.2.2.2.2.2.2.1, x.2.2.2.2.2.2.2.1, x.2.2.2.2.2.2.2.2.1, x.2.2.2.2.2.2.2.2.2⟩ : Ob)) (fun _ => rfl) (fun _ h => h) (opensB_struct (fs := [_, _, _, _, _, _, _, _, _, _]) Try.underlying120 (by kernel_rfl) (fsB_cons rfl (by kernel_rfl) (opensB_of (opens_int Try.underlying3)) (fsB_cons rfl (by kernel_rfl) (opensB_of (opens_int Try.underlying3)) (fsB_cons rfl (by kernel_rfl) (opensB_of opens_seed) (fsB_cons rfl (by kernel_rfl) (opensB_of opens_seed) (fsB_cons rfl (by kernel_rfl) (opensB_of (opens_int Try.underlying3)) (fsB_cons rfl (by kernel_rfl) (opensB_of (opens_int Try.underlying3)) (fsB_cons rfl (by kernel_rfl) opensB_bytes (fsB_cons rfl (by kernel_rfl) opensB_maps (fsB_cons rfl (by kernel_rfl) (opensB_of (opens_int Try.underlying3)) (fsB_last rfl (by kernel_rfl) (opensB_of (opens_int Try.underlying3)))))))))))))
theorem opensB_obs {n : Nat} : OpensB n Try.prog 54 (Lay.sl psL) (fun l => l.length ≤ n ∧ l.length ≤ maxLen ∧ ∀ o ∈ l, okOB n o) := opensB_slice ⟨⟨0, 0, ⟨0, []⟩, ⟨0, []⟩, 0, 0, [], [], 0, 0⟩⟩ Try.underlying54 (by kernel_rfl) (by decide) opensB_ob
theorem opensB_plan {n : Nat} : OpensB n Try.prog 56 plL (okCB n) := opensB_via (f := fun o : Cf => (o.co, o.fr, o.nm, o.sl, o.obs)) (fun x => (⟨x.1, x.2.1, x.2.2.1, x.2.2.2.1, x.2.2.2.2⟩ : Cf)) (fun _ => rfl) (fun _ h => h) (opensB_struct (fs := [_, _, _, _, _]) Try.underlying56 (by kernel_rfl) (fsB_cons rfl (by kernel_rfl) (opensB_of (opens_int Try.underlying3)) (fsB_cons rfl (by kernel_rfl) (opensB_of (opens_int Try.underlying3)) (fsB_cons rfl (by kernel_rfl) (opensB_of (opens_int Try.underlying3)) (fsB_cons rfl (by kernel_rfl) opensB_slots (fsB_last rfl (by kernel_rfl) opensB_obs))))))
theorem sz_56 : (Try.prog.info? 56).map (·.size) = some 5 := by kernel_rfl
theorem few_of {c : Cf} (h : okCB 1048576 c) : FewC c := ⟨h.2.2.2.1.1, h.2.2.2.2.1, fun o ho => ⟨(h.2.2.2.2.2.2 o ho).2.2.2.2.2.2.1.1, (h.2.2.2.2.2.2 o ho).2.2.2.2.2.2.2.1.1⟩⟩
theorem obK_maps {o : Ob} {m : M} (h : m ∈ (obK o).mps) : m ∈ o.mps := by
  unfold obK at h
  repeat' split at h
  all_goals first | exact h | cases h
theorem obK_len (o : Ob) : (obK o).mps.length ≤ o.mps.length ∧ (obK o).dat.length ≤ o.dat.length := by
  unfold obK
  repeat' split
  all_goals simp
/-- What a plan gives. -/
theorem plan_facts {c : Cf} (h : okCB 1048576 c) (hL : lightB c = true) : (planC c).obs.length ≤ 3000 ∧ (planC c).sl.length ≤ 3000 ∧ (∀ o ∈ (planC c).obs, o.mps.length ≤ 3000 ∧ o.dat.length ≤ 3000) ∧ ∀ o ∈ (planC c).obs, ∀ m ∈ o.mps, 0 ≤ m.sg := by
  obtain ⟨h1, h2, h3⟩ := light_len hL
  refine ⟨by show (c.obs.map obK).length ≤ _; rw [List.length_map]; exact h2, h1, fun o ho => ?_, fun o ho m hm => ?_⟩
  · obtain ⟨p, hp, rfl⟩ := List.mem_map.1 ho
    have := h3 p hp
    have := obK_len p
    omega
  · obtain ⟨p, hp, rfl⟩ := List.mem_map.1 ho
    have h4 := (h.2.2.2.2.2.2 p hp).2.2.2.2.2.2.2.1.2.2 m (obK_maps hm)
    have h5 := h4.2.1
    simp [Lit.wf, IntKind.min, IntKind.max, IntKind.signed, IntKind.bits] at h5
    omega
end Go.Proofs.Ytihddficgpjgpaa.Y
