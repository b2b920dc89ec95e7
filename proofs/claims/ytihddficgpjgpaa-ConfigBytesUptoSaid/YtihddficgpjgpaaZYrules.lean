/- The functions of the rules, by what they make of labels. -/
import Derived.Test.YtihddficgpjgpaaZYops
import Derived.Test.YtihddficgpjgpaaZYlab
namespace Go.Proofs.Ytihddficgpjgpaa.Y
open Go.RowKit
theorem pt90_0 : Part pairL (Lay.int .u32) 0 (fun x => x.1) := Part.fst (Part.self _)
theorem pt90_1 : Part pairL (Lay.int .i64) 1 (fun x => x.2) := Part.snd (Part.self _)
theorem nu39 {U : Prop} : U → ∀ (i : Nat) (x : Int), (#[.int .i64 0, .slice none 0 0] : Array Value)[i]? ≠ some (.int .u32 x) := fun _ i x => by
  rcases i with _ | _ | i <;> simp
theorem lab_nou {n : Nat} {l : Lab} {w : World} {F : Cell → Prop} {cs : List Value} (h : (labL n).on w F cs l) (x : Int) : Value.int .u32 x ∉ cs := by
  obtain ⟨⟨c1, c2, rfl, h1, A, c, h2, _⟩, _⟩ := h
  obtain rfl : c1 = [.int .i64 l.d] := h1
  subst h2
  simp
theorem nul {U : Prop} {n : Nat} {l : Lab} : U → ∀ {w : World} {F : Cell → Prop} {cs : List Value}, (labL n).on w F cs l → ∀ x : Int, Value.int .u32 x ∉ cs := fun _ => lab_nou
def plainB (l : Lab) : Bool := ((ownsL l).length : Int) == 0
set_option maxRecDepth 100000 in
theorem f86 {l : Lab} {m : Nat} (hm : m ≤ 500) : Fn True Try.prog 86 [.lb l m] (.bool (plainB l)) := fn1 fun w F v0 h0 hF => by
  go_enter Try.func86, Try.ntmps86
  refine wp_seq ?_
  refine flowC mixed (st0 (U := True) (N := 7) (e := [(0, true, .lb l m)]) (F := F) rfl rfl hF ⟨⟨rfl, h0⟩, True.intro⟩) (by kernel_rfl) (by kernel_rfl) (cc rfl (p_box bx_39 g0 (od rfl id))
      (cc rfl (p_assign g0 (oc _)) cn)) fun a1 w1 b1 s1 => ?_
  have z1 := b1
  refine wp_seq ?_
  refine flowT (s1.keep (sc 1 rfl (sc 2 rfl sn))) (by kernel_rfl) (cc rfl (p_load Try.underlying39 rfl sz_39 g0 (od rfl id))
      (cc rfl (p_call 56 g0 (ox (od rfl id) ox0) (fun _ _ => by kernel_rfl) (f56 (by omega)))
      (cc rfl (p_len ln_75 g0 (od rfl id))
      (cc rfl (p_bin g0 (od rfl id) (oc _) b_eql_3)
      (cc rfl (p_assign g0 (od rfl id)) cn))))) fun a2 w2 b2 s2 => ?_
  have z2 := z1.trans (b2.mono z1.size)
  exact wp_ret (ret_tmp (fn := Try.f86) s2 2 rfl rfl (fun _ h => h) z2)
end Go.Proofs.Ytihddficgpjgpaa.Y
