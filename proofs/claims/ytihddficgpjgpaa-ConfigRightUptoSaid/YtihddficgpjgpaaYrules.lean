/- The functions of the rules, by what they make of labels. -/
import Derived.Test.YtihddficgpjgpaaYops
import Derived.Test.YtihddficgpjgpaaYlab
namespace Go.Proofs.Ytihddficgpjgpaa.Y
open Go.RowKit

abbrev whoL (m n : Nat) : Lay (Lab × Lab) := (labL m).pr (labL n)
theorem pt39_0 {n : Nat} : Part (labL n) (Lay.int .i64) 0 (fun l => l.d) := by
  rintro w F cs l ⟨⟨c1, c2, rfl, h1, h2⟩, _⟩
  exact ⟨[], c1, c2, rfl, rfl, h1⟩
theorem pt39_1 {n : Nat} : Part (labL n) (Lay.sl pairL) 1 (fun l => l.ps) := by
  rintro w F cs l ⟨⟨c1, c2, rfl, h1, h2⟩, _⟩
  exact ⟨c1, c2, [], by simp, (Lay.int .i64).len h1, h2⟩
theorem ptw0 {m n : Nat} : Part ((labL m).pr (labL n)) (labL m) 0 (fun x => x.1) := Part.fst (Part.self _)
theorem ptw1 {m n : Nat} : Part ((labL m).pr (labL n)) (labL n) 2 (fun x => x.2) := Part.snd (Part.self _)
theorem pt90_0 : Part pairL (Lay.int .u32) 0 (fun x => x.1) := Part.fst (Part.self _)
theorem pt90_1 : Part pairL (Lay.int .i64) 1 (fun x => x.2) := Part.snd (Part.self _)
theorem nu39 {U : Prop} : U → ∀ (i : Nat) (x : Int), (#[.int .i64 0, .slice none 0 0] : Array Value)[i]? ≠ some (.int .u32 x) := fun _ i x => by
  rcases i with _ | _ | i <;> simp
theorem nu83 {U : Prop} : U → ∀ (i : Nat) (x : Int), (#[.int .i64 0, .slice none 0 0, .int .i64 0, .slice none 0 0] : Array Value)[i]? ≠ some (.int .u32 x) := fun _ i x => by
  rcases i with _ | _ | _ | _ | i <;> simp
theorem lab_nou {n : Nat} {l : Lab} {w : World} {F : Cell → Prop} {cs : List Value} (h : (labL n).on w F cs l) (x : Int) : Value.int .u32 x ∉ cs := by
  obtain ⟨⟨c1, c2, rfl, h1, A, c, h2, _⟩, _⟩ := h
  obtain rfl : c1 = [.int .i64 l.d] := h1
  subst h2
  simp
theorem nul {U : Prop} {n : Nat} {l : Lab} : U → ∀ {w : World} {F : Cell → Prop} {cs : List Value}, (labL n).on w F cs l → ∀ x : Int, Value.int .u32 x ∉ cs := fun _ => lab_nou
theorem nuw {U : Prop} {m n : Nat} {l : Lab × Lab} : U → ∀ {w : World} {F : Cell → Prop} {cs : List Value}, ((labL m).pr (labL n)).on w F cs l → ∀ x : Int, Value.int .u32 x ∉ cs := by
  rintro _ w F cs ⟨c1, c2, rfl, h1, h2⟩ x hx
  rcases List.mem_append.1 hx with hx | hx
  · exact lab_nou h1 x hx
  · exact lab_nou h2 x hx

def readB (t o : Lab) : Bool := leqB o (raiseL t)
def changeB (t o : Lab) : Bool := leqB t o && readB t o
def plainB (l : Lab) : Bool := ((ownsL l).length : Int) == 0
def createB (t : Lab × Lab) (h l : Lab) : Bool := changeB t.1 h && plainB l && leqB t.1 l && leqB l t.2 && leqB h l
def giveB (t : Lab × Lab) (h : Lab) (w : Lab × Lab) : Bool := changeB t.1 h && leqB t.1 w.1 && leqB w.1 w.2 && leqB w.2 t.2 && leqB h (restL w.1)
def selfB (t : Lab × Lab) (l : Lab) : Bool := leqB t.1 l && leqB l t.2
def clearB (t : Lab × Lab) (c : Lab) : Bool := leqB t.1 c && leqB c (joinL t.2 (raiseL t.1)) && rightB c
def leastL (t g : Lab) : Lab := lowerL (joinL (raiseL t) (raiseL g))
def enterB (t : Lab × Lab) (h : Lab) (g w : Lab × Lab) : Bool := leqB t.1 g.2 && leqB (leastL t.1 g.1) w.1 && leqB w.1 w.2 && leqB w.2 (joinL t.2 g.2) && leqB h (restL w.1)
def freshL (t : Lab × Lab) (c : Int) : Lab × Lab := (withL t.1 c 0, withL t.2 c 4)
def freshB' (t : Lab × Lab) (c : Int) : Bool := rightB (withL t.1 c 0) && rightB (withL t.2 c 4)
def rchangeB (t o : Lab) : Bool := readB t o && leqB t o
def rcreateB (t : Lab × Lab) (h l : Lab) : Bool := rchangeB t.1 h && plainB l && leqB t.1 l && leqB l t.2 && leqB h l
def rgiveB (t : Lab × Lab) (h : Lab) (w : Lab × Lab) : Bool := rchangeB t.1 h && leqB t.1 w.1 && leqB w.1 w.2 && leqB w.2 t.2 && leqB h (restL w.1)
def sameW (a b : Lab × Lab) : Bool := sameB a.1 b.1 && sameB a.2 b.2

set_option maxRecDepth 100000 in
theorem f54 {t o : Lab} {m n : Nat} (hm : m ≤ 500) (hn : n ≤ 500) : Fn True Try.prog 54 [.lb t m, .lb o n] (.bool (readB t o)) := fn2 fun w F v0 v1 h0 h1 hF => by
  go_enter Try.func54, Try.ntmps54
  refine wp_seq ?_
  refine flowC mixed (st0 (U := True) (N := 9) (e := [(0, true, .lb t m), (1, true, .lb o n)]) (F := F) rfl rfl hF ⟨⟨rfl, h0⟩, ⟨⟨rfl, h1⟩, True.intro⟩⟩) (by kernel_rfl) (by kernel_rfl) (cc rfl (p_box bx_39 g0 (od rfl id))
      (cc rfl (p_box bx_39 g0 (od rfl id))
      (cc rfl (p_assign g0 (oc _)) cn))) fun a1 w1 b1 s1 => ?_
  have z1 := b1
  refine wp_seq ?_
  refine flowC mixed (s1.keep (sc 2 rfl (sc 3 rfl sn))) (by kernel_rfl) (by kernel_rfl) (cc rfl (p_load Try.underlying39 rfl sz_39 g0 (od rfl id))
      (cc rfl (p_load Try.underlying39 rfl sz_39 g0 (od rfl id))
      (cc rfl (p_call 74 g0 (ox (od rfl id) ox0) (fun _ _ => by kernel_rfl) (f74 (by omega)))
      (cc rfl (p_call 57 g0 (ox (od rfl id) (ox (od rfl id) ox0)) (fun _ _ => by kernel_rfl) (f57 (by omega)))
      (cc rfl (p_assign g0 (od rfl id)) cn))))) fun a2 w2 b2 s2 => ?_
  have z2 := z1.trans (b2.mono z1.size)
  exact wp_ret (ret_tmp (fn := Try.f54) s2 4 rfl rfl (fun _ h => h) z2)

set_option maxRecDepth 100000 in
theorem f55 {t o : Lab} {m n : Nat} (hm : m ≤ 500) (hn : n ≤ 500) : Fn True Try.prog 55 [.lb t m, .lb o n] (.bool (changeB t o)) := fn2 fun w F v0 v1 h0 h1 hF => by
  go_enter Try.func55, Try.ntmps55
  refine wp_seq ?_
  refine flowC mixed (st0 (U := True) (N := 13) (e := [(0, true, .lb t m), (1, true, .lb o n)]) (F := F) rfl rfl hF ⟨⟨rfl, h0⟩, ⟨⟨rfl, h1⟩, True.intro⟩⟩) (by kernel_rfl) (by kernel_rfl) (cc rfl (p_box bx_39 g0 (od rfl id))
      (cc rfl (p_box bx_39 g0 (od rfl id))
      (cc rfl (p_assign g0 (oc _)) cn))) fun a1 w1 b1 s1 => ?_
  have z1 := b1
  refine wp_seq ?_
  refine flowT (s1.keep (sc 2 rfl (sc 3 rfl (sc 4 rfl sn)))) (by kernel_rfl) (cc rfl (p_load Try.underlying39 rfl sz_39 g0 (od rfl id))
      (cc rfl (p_load Try.underlying39 rfl sz_39 g0 (od rfl id))
      (cc rfl (p_call 57 g0 (ox (od rfl id) (ox (od rfl id) ox0)) (fun _ _ => by kernel_rfl) (f57 (by omega)))
      (cc rfl (p_move g0 (od rfl id))
      (cc rfl (p_load Try.underlying39 rfl sz_39 (g1 rfl rfl) (od rfl (fun _ => rfl)))
      (cc rfl (p_load Try.underlying39 rfl sz_39 (g1 rfl rfl) (od rfl (fun _ => rfl)))
      (cc rfl (p_call 54 (g1 rfl rfl) (ox (od rfl id) (ox (od rfl id) ox0)) (fun _ _ => by kernel_rfl) (f54 (by omega) (by omega)))
      (cc rfl (p_and g0 (od rfl id) (od rfl id))
      (cc rfl (p_assign g0 (od rfl id)) cn))))))))) fun a2 w2 b2 s2 => ?_
  have z2 := z1.trans (b2.mono z1.size)
  exact wp_ret (ret_tmp (fn := Try.f55) s2 4 rfl rfl (fun _ h => h) z2)

set_option maxRecDepth 100000 in
theorem f62 {t o : Lab} {m n : Nat} (hm : m ≤ 500) (hn : n ≤ 500) : Fn True Try.prog 62 [.lb t m, .lb o n] (.bool (readB t o)) := fn2 fun w F v0 v1 h0 h1 hF => by
  go_enter Try.func62, Try.ntmps62
  refine wp_seq ?_
  refine flowC mixed (st0 (U := True) (N := 9) (e := [(0, true, .lb t m), (1, true, .lb o n)]) (F := F) rfl rfl hF ⟨⟨rfl, h0⟩, ⟨⟨rfl, h1⟩, True.intro⟩⟩) (by kernel_rfl) (by kernel_rfl) (cc rfl (p_box bx_39 g0 (od rfl id))
      (cc rfl (p_box bx_39 g0 (od rfl id))
      (cc rfl (p_assign g0 (oc _)) cn))) fun a1 w1 b1 s1 => ?_
  have z1 := b1
  refine wp_seq ?_
  refine flowC mixed (s1.keep (sc 2 rfl (sc 3 rfl sn))) (by kernel_rfl) (by kernel_rfl) (cc rfl (p_load Try.underlying39 rfl sz_39 g0 (od rfl id))
      (cc rfl (p_load Try.underlying39 rfl sz_39 g0 (od rfl id))
      (cc rfl (p_call 74 g0 (ox (od rfl id) ox0) (fun _ _ => by kernel_rfl) (f74 (by omega)))
      (cc rfl (p_call 57 g0 (ox (od rfl id) (ox (od rfl id) ox0)) (fun _ _ => by kernel_rfl) (f57 (by omega)))
      (cc rfl (p_assign g0 (od rfl id)) cn))))) fun a2 w2 b2 s2 => ?_
  have z2 := z1.trans (b2.mono z1.size)
  exact wp_ret (ret_tmp (fn := Try.f62) s2 4 rfl rfl (fun _ h => h) z2)

set_option maxRecDepth 100000 in
theorem f84 {t o : Lab} {m n : Nat} (hm : m ≤ 500) (hn : n ≤ 500) : Fn True Try.prog 84 [.lb t m, .lb o n] (.bool (readB t o)) := fn2 fun w F v0 v1 h0 h1 hF => by
  go_enter Try.func84, Try.ntmps84
  refine wp_seq ?_
  refine flowC mixed (st0 (U := True) (N := 9) (e := [(0, true, .lb t m), (1, true, .lb o n)]) (F := F) rfl rfl hF ⟨⟨rfl, h0⟩, ⟨⟨rfl, h1⟩, True.intro⟩⟩) (by kernel_rfl) (by kernel_rfl) (cc rfl (p_box bx_39 g0 (od rfl id))
      (cc rfl (p_box bx_39 g0 (od rfl id))
      (cc rfl (p_assign g0 (oc _)) cn))) fun a1 w1 b1 s1 => ?_
  have z1 := b1
  refine wp_seq ?_
  refine flowC mixed (s1.keep (sc 2 rfl (sc 3 rfl sn))) (by kernel_rfl) (by kernel_rfl) (cc rfl (p_load Try.underlying39 rfl sz_39 g0 (od rfl id))
      (cc rfl (p_load Try.underlying39 rfl sz_39 g0 (od rfl id))
      (cc rfl (p_call 76 g0 (ox (od rfl id) ox0) (fun _ _ => by kernel_rfl) (f76 (by omega)))
      (cc rfl (p_call 83 g0 (ox (od rfl id) (ox (od rfl id) ox0)) (fun _ _ => by kernel_rfl) (f83 (by omega)))
      (cc rfl (p_assign g0 (od rfl id)) cn))))) fun a2 w2 b2 s2 => ?_
  have z2 := z1.trans (b2.mono z1.size)
  exact wp_ret (ret_tmp (fn := Try.f84) s2 4 rfl rfl (fun _ h => h) z2)

set_option maxRecDepth 100000 in
theorem f85 {t o : Lab} {m n : Nat} (hm : m ≤ 500) (hn : n ≤ 500) : Fn True Try.prog 85 [.lb t m, .lb o n] (.bool (rchangeB t o)) := fn2 fun w F v0 v1 h0 h1 hF => by
  go_enter Try.func85, Try.ntmps85
  refine wp_seq ?_
  refine flowC mixed (st0 (U := True) (N := 13) (e := [(0, true, .lb t m), (1, true, .lb o n)]) (F := F) rfl rfl hF ⟨⟨rfl, h0⟩, ⟨⟨rfl, h1⟩, True.intro⟩⟩) (by kernel_rfl) (by kernel_rfl) (cc rfl (p_box bx_39 g0 (od rfl id))
      (cc rfl (p_box bx_39 g0 (od rfl id))
      (cc rfl (p_assign g0 (oc _)) cn))) fun a1 w1 b1 s1 => ?_
  have z1 := b1
  refine wp_seq ?_
  refine flowT (s1.keep (sc 2 rfl (sc 3 rfl (sc 4 rfl sn)))) (by kernel_rfl) (cc rfl (p_load Try.underlying39 rfl sz_39 g0 (od rfl id))
      (cc rfl (p_load Try.underlying39 rfl sz_39 g0 (od rfl id))
      (cc rfl (p_call 84 g0 (ox (od rfl id) (ox (od rfl id) ox0)) (fun _ _ => by kernel_rfl) (f84 (by omega) (by omega)))
      (cc rfl (p_move g0 (od rfl id))
      (cc rfl (p_load Try.underlying39 rfl sz_39 (g1 rfl rfl) (od rfl (fun _ => rfl)))
      (cc rfl (p_load Try.underlying39 rfl sz_39 (g1 rfl rfl) (od rfl (fun _ => rfl)))
      (cc rfl (p_call 83 (g1 rfl rfl) (ox (od rfl id) (ox (od rfl id) ox0)) (fun _ _ => by kernel_rfl) (f83 (by omega)))
      (cc rfl (p_and g0 (od rfl id) (od rfl id))
      (cc rfl (p_assign g0 (od rfl id)) cn))))))))) fun a2 w2 b2 s2 => ?_
  have z2 := z1.trans (b2.mono z1.size)
  exact wp_ret (ret_tmp (fn := Try.f85) s2 4 rfl rfl (fun _ h => h) z2)

set_option maxRecDepth 100000 in
theorem f93 {t o : Lab} {m n : Nat} (hm : m ≤ 500) (hn : n ≤ 500) : Fn True Try.prog 93 [.lb t m, .lb o n] (.bool (readB t o)) := fn2 fun w F v0 v1 h0 h1 hF => by
  go_enter Try.func93, Try.ntmps93
  refine wp_seq ?_
  refine flowC mixed (st0 (U := True) (N := 8) (e := [(0, true, .lb t m), (1, true, .lb o n)]) (F := F) rfl rfl hF ⟨⟨rfl, h0⟩, ⟨⟨rfl, h1⟩, True.intro⟩⟩) (by kernel_rfl) (by kernel_rfl) (cc rfl (p_box bx_39 g0 (od rfl id))
      (cc rfl (p_box bx_39 g0 (od rfl id))
      (cc rfl (p_assign g0 (oc _)) cn))) fun a1 w1 b1 s1 => ?_
  have z1 := b1
  refine wp_seq ?_
  refine flowT (s1.keep (sc 2 rfl (sc 3 rfl (sc 4 rfl sn)))) (by kernel_rfl) (cc rfl (p_load Try.underlying39 rfl sz_39 g0 (od rfl id))
      (cc rfl (p_load Try.underlying39 rfl sz_39 g0 (od rfl id))
      (cc rfl (p_call 84 g0 (ox (od rfl id) (ox (od rfl id) ox0)) (fun _ _ => by kernel_rfl) (f84 (by omega) (by omega)))
      (cc rfl (p_assign g0 (od rfl id)) cn)))) fun a2 w2 b2 s2 => ?_
  have z2 := z1.trans (b2.mono z1.size)
  exact wp_ret (ret_tmp (fn := Try.f93) s2 4 rfl rfl (fun _ h => h) z2)

set_option maxRecDepth 100000 in
theorem f61 {t o : Lab} {m n : Nat} (hm : m ≤ 500) (hn : n ≤ 500) : Fn True Try.prog 61 [.lb t m, .lb o n] (.lb (leastL t o) ((m + m) + (n + n) + ((m + m) + (n + n)))) := fn2 fun w F v0 v1 h0 h1 hF => by
  go_enter Try.func61, Try.ntmps61
  refine wp_seq ?_
  refine flowN mixed (st0 (U := True) (N := 11) (e := [(0, true, .lb t m), (1, true, .lb o n)]) (F := F) rfl rfl hF ⟨⟨rfl, h0⟩, ⟨⟨rfl, h1⟩, True.intro⟩⟩) (by kernel_rfl) (by kernel_rfl) (cc rfl (p_box bx_39 g0 (od rfl id))
      (cc rfl (p_box bx_39 g0 (od rfl id))
      (ca rfl (m_alloc al_39 nu39) cn))) (by kernel_rfl) fun a1 w1 gs1 b1 s1 n1 hh1 m1 => ?_
  have z1 := b1
  obtain ⟨g4, rfl, p4, k4⟩ := made1 m1
  have hg4 := hh1 g4 (by simp)
  have s1 := s1.more 4 (y := .val (.pointer (some ⟨g4, 0, none⟩))) p4
  refine wp_seq ?_
  refine flowR 6 mixed (s1.keep (sc 2 rfl (sc 3 rfl (sc 4 rfl sn)))) (by kernel_rfl) (by kernel_rfl) (cc rfl (p_load Try.underlying39 rfl sz_39 g0 (od rfl id))
      (cc rfl (p_call 74 g0 (ox (od rfl id) ox0) (fun _ _ => by kernel_rfl) (f74 (by omega)))
      (cc rfl (p_load Try.underlying39 rfl sz_39 g0 (od rfl id))
      (cc rfl (p_call 74 g0 (ox (od rfl id) ox0) (fun _ _ => by kernel_rfl) (f74 (by omega)))
      (cc rfl (p_call 58 g0 (ox (od rfl id) (ox (od rfl id) ox0)) (fun _ _ => by kernel_rfl) (f58 (by omega)))
      (cc rfl (p_call 78 g0 (ox (od rfl id) ox0) (fun _ _ => by kernel_rfl) (f78 (by omega))) cn)))))) fun a2 w2 b2 s2 => ?_
  have z2 := z1.trans (b2.mono z1.size)
  have k4 := k4.below b2 k4.lt
  show wpList _ _ _ (_ :: _) _ _
  refine store_own 4 10 s2 rfl rfl rfl sz_39 rfl rfl k4 rfl (fun _ => .inr (by simp)) nul fun w3 c3 y3 q3 k4 l3 s3 => ?_
  have z3 := q3 _ _ z2 hg4
  exact wp_ret (ret_cell (fn := Try.f61) s3 4 rfl rfl Try.underlying39 rfl sz_39 k4 l3 (fun _ h => Or.inl h) z3)

set_option maxRecDepth 100000 in
theorem f72 {t o : Lab} {m n : Nat} (hm : m ≤ 500) (hn : n ≤ 500) : Fn True Try.prog 72 [.lb t m, .lb o n] (.lb (leastL t o) ((m + m) + (n + n) + ((m + m) + (n + n)))) := fn2 fun w F v0 v1 h0 h1 hF => by
  go_enter Try.func72, Try.ntmps72
  refine wp_seq ?_
  refine flowN mixed (st0 (U := True) (N := 11) (e := [(0, true, .lb t m), (1, true, .lb o n)]) (F := F) rfl rfl hF ⟨⟨rfl, h0⟩, ⟨⟨rfl, h1⟩, True.intro⟩⟩) (by kernel_rfl) (by kernel_rfl) (cc rfl (p_box bx_39 g0 (od rfl id))
      (cc rfl (p_box bx_39 g0 (od rfl id))
      (ca rfl (m_alloc al_39 nu39) cn))) (by kernel_rfl) fun a1 w1 gs1 b1 s1 n1 hh1 m1 => ?_
  have z1 := b1
  obtain ⟨g4, rfl, p4, k4⟩ := made1 m1
  have hg4 := hh1 g4 (by simp)
  have s1 := s1.more 4 (y := .val (.pointer (some ⟨g4, 0, none⟩))) p4
  refine wp_seq ?_
  refine flowR 6 mixed (s1.keep (sc 2 rfl (sc 3 rfl (sc 4 rfl sn)))) (by kernel_rfl) (by kernel_rfl) (cc rfl (p_load Try.underlying39 rfl sz_39 g0 (od rfl id))
      (cc rfl (p_call 76 g0 (ox (od rfl id) ox0) (fun _ _ => by kernel_rfl) (f76 (by omega)))
      (cc rfl (p_load Try.underlying39 rfl sz_39 g0 (od rfl id))
      (cc rfl (p_call 76 g0 (ox (od rfl id) ox0) (fun _ _ => by kernel_rfl) (f76 (by omega)))
      (cc rfl (p_call 75 g0 (ox (od rfl id) (ox (od rfl id) (ox (oc _) ox0))) (fun _ _ => by kernel_rfl) (f75 (by omega)))
      (cc rfl (p_call 79 g0 (ox (od rfl id) ox0) (fun _ _ => by kernel_rfl) (f79 (by omega))) cn)))))) fun a2 w2 b2 s2 => ?_
  have z2 := z1.trans (b2.mono z1.size)
  have k4 := k4.below b2 k4.lt
  show wpList _ _ _ (_ :: _) _ _
  refine store_own 4 10 s2 rfl rfl rfl sz_39 rfl rfl k4 rfl (fun _ => .inr (by simp)) nul fun w3 c3 y3 q3 k4 l3 s3 => ?_
  have z3 := q3 _ _ z2 hg4
  exact wp_ret (ret_cell (fn := Try.f72) s3 4 rfl rfl Try.underlying39 rfl sz_39 k4 l3 (fun _ h => Or.inl h) z3)

set_option maxRecDepth 100000 in
theorem f86 {l : Lab} {m : Nat} (hm : m ≤ 500) : Fn True Try.prog 86 [.lb l m] (.bool (plainB l)) := fn1 fun w F v0 h0 hF => by
  go_enter Try.func86, Try.ntmps86
  refine wp_seq ?_
  refine flowC mixed (st0 (U := True) (N := 7) (e := [(0, true, .lb l m)]) (F := F) rfl rfl hF ⟨⟨rfl, h0⟩, True.intro⟩) (by kernel_rfl) (by kernel_rfl) (cc rfl (p_box bx_39 g0 (od rfl id))
      (cc rfl (p_assign g0 (oc _)) cn)) fun a1 w1 b1 s1 => ?_
  have z1 := b1
  refine wp_seq ?_
  refine flowT (s1.keep (sc 1 rfl (sc 2 rfl sn))) (by kernel_rfl) (cc rfl (p_load Try.underlying39 rfl sz_39 g0 (od rfl id))
      (cc rfl (p_call 56 g0 (ox (od rfl id) ox0) (fun _ _ => by kernel_rfl) (f56 (by omega)))
      (cc rfl (p_len ln_75 g0 (od rfl id))
      (cc rfl (p_bin g0 (od rfl id) (oc _) b_eql_3)
      (cc rfl (p_assign g0 (od rfl id)) cn))))) fun a2 w2 b2 s2 => ?_
  have z2 := z1.trans (b2.mono z1.size)
  exact wp_ret (ret_tmp (fn := Try.f86) s2 2 rfl rfl (fun _ h => h) z2)

set_option maxRecDepth 100000 in
theorem f87 {l : Lab} {m : Nat} (hm : m ≤ 500) : Fn True Try.prog 87 [.lb l m] (.bool (plainB l)) := fn1 fun w F v0 h0 hF => by
  go_enter Try.func87, Try.ntmps87
  refine wp_seq ?_
  refine flowC mixed (st0 (U := True) (N := 7) (e := [(0, true, .lb l m)]) (F := F) rfl rfl hF ⟨⟨rfl, h0⟩, True.intro⟩) (by kernel_rfl) (by kernel_rfl) (cc rfl (p_box bx_39 g0 (od rfl id))
      (cc rfl (p_assign g0 (oc _)) cn)) fun a1 w1 b1 s1 => ?_
  have z1 := b1
  refine wp_seq ?_
  refine flowT (s1.keep (sc 1 rfl (sc 2 rfl sn))) (by kernel_rfl) (cc rfl (p_load Try.underlying39 rfl sz_39 g0 (od rfl id))
      (cc rfl (p_call 80 g0 (ox (od rfl id) ox0) (fun _ _ => by kernel_rfl) (f80 (by omega)))
      (cc rfl (p_len ln_75 g0 (od rfl id))
      (cc rfl (p_bin g0 (od rfl id) (oc _) b_eql_3)
      (cc rfl (p_assign g0 (od rfl id)) cn))))) fun a2 w2 b2 s2 => ?_
  have z2 := z1.trans (b2.mono z1.size)
  exact wp_ret (ret_tmp (fn := Try.f87) s2 2 rfl rfl (fun _ h => h) z2)

set_option maxRecDepth 100000 in
theorem f88 {t : Lab × Lab} {h l : Lab} {m n p q : Nat} (hm : m ≤ 100) (hn : n ≤ 100) (hp : p ≤ 100) (hq : q ≤ 100) : Fn True Try.prog 88 [.st (whoL m n) t, .lb h p, .lb l q] (.bool (createB t h l)) := fn3 fun w F v0 v1 v2 h0 h1 h2 hF => by
  go_enter Try.func88, Try.ntmps88
  refine wp_seq ?_
  refine flowC mixed (st0 (U := True) (N := 32) (e := [(0, true, .st (whoL m n) t), (1, true, .lb h p), (2, true, .lb l q)]) (F := F) rfl rfl hF ⟨⟨rfl, h0⟩, ⟨⟨rfl, h1⟩, ⟨⟨rfl, h2⟩, True.intro⟩⟩⟩) (by kernel_rfl) (by kernel_rfl) (cc rfl (p_box bx_83 g0 (od rfl id))
      (cc rfl (p_box bx_39 g0 (od rfl id))
      (cc rfl (p_box bx_39 g0 (od rfl id))
      (cc rfl (p_assign g0 (oc _)) cn)))) fun a1 w1 b1 s1 => ?_
  have z1 := b1
  refine wp_seq ?_
  refine flowT (s1.keep (sc 3 rfl (sc 4 rfl (sc 5 rfl (sc 6 rfl sn))))) (by kernel_rfl) (cc rfl (p_fieldAddr ptw0 fa_83_0 g0 (od rfl id))
      (cc rfl (p_load Try.underlying39 rfl sz_39 g0 (od rfl id))
      (cc rfl (p_load Try.underlying39 rfl sz_39 g0 (od rfl id))
      (cc rfl (p_call 55 g0 (ox (od rfl id) (ox (od rfl id) ox0)) (fun _ _ => by kernel_rfl) (f55 (by omega) (by omega)))
      (cc rfl (p_move g0 (od rfl id))
      (cc rfl (p_load Try.underlying39 rfl sz_39 (g1 rfl rfl) (od rfl (fun _ => rfl)))
      (cc rfl (p_call 86 (g1 rfl rfl) (ox (od rfl id) ox0) (fun _ _ => by kernel_rfl) (f86 (by omega)))
      (cc rfl (p_and g0 (od rfl id) (od rfl id))
      (cc rfl (p_move g0 (od rfl id))
      (cc rfl (p_fieldAddr ptw0 fa_83_0 (g1 rfl rfl) (od rfl (fun _ => rfl)))
      (cc rfl (p_load Try.underlying39 rfl sz_39 (g1 rfl rfl) (od rfl id))
      (cc rfl (p_load Try.underlying39 rfl sz_39 (g1 rfl rfl) (od rfl (fun _ => rfl)))
      (cc rfl (p_call 57 (g1 rfl rfl) (ox (od rfl id) (ox (od rfl id) ox0)) (fun _ _ => by kernel_rfl) (f57 (by omega)))
      (cc rfl (p_and g0 (od rfl id) (od rfl id))
      (cc rfl (p_move g0 (od rfl id))
      (cc rfl (p_load Try.underlying39 rfl sz_39 (g1 rfl rfl) (od rfl (fun _ => rfl)))
      (cc rfl (p_fieldAddr ptw1 fa_83_1 (g1 rfl rfl) (od rfl (fun _ => rfl)))
      (cc rfl (p_load Try.underlying39 rfl sz_39 (g1 rfl rfl) (od rfl id))
      (cc rfl (p_call 57 (g1 rfl rfl) (ox (od rfl id) (ox (od rfl id) ox0)) (fun _ _ => by kernel_rfl) (f57 (by omega)))
      (cc rfl (p_and g0 (od rfl id) (od rfl id))
      (cc rfl (p_move g0 (od rfl id))
      (cc rfl (p_load Try.underlying39 rfl sz_39 (g1 rfl rfl) (od rfl (fun _ => rfl)))
      (cc rfl (p_load Try.underlying39 rfl sz_39 (g1 rfl rfl) (od rfl (fun _ => rfl)))
      (cc rfl (p_call 57 (g1 rfl rfl) (ox (od rfl id) (ox (od rfl id) ox0)) (fun _ _ => by kernel_rfl) (f57 (by omega)))
      (cc rfl (p_and g0 (od rfl id) (od rfl id))
      (cc rfl (p_assign g0 (od rfl id)) cn)))))))))))))))))))))))))) fun a2 w2 b2 s2 => ?_
  have z2 := z1.trans (b2.mono z1.size)
  exact wp_ret (ret_tmp (fn := Try.f88) s2 6 rfl rfl (fun _ h => h) z2)

set_option maxRecDepth 100000 in
theorem f89 {t : Lab × Lab} {h l : Lab} {m n p q : Nat} (hm : m ≤ 100) (hn : n ≤ 100) (hp : p ≤ 100) (hq : q ≤ 100) : Fn True Try.prog 89 [.st (whoL m n) t, .lb h p, .lb l q] (.bool (rcreateB t h l)) := fn3 fun w F v0 v1 v2 h0 h1 h2 hF => by
  go_enter Try.func89, Try.ntmps89
  refine wp_seq ?_
  refine flowC mixed (st0 (U := True) (N := 32) (e := [(0, true, .st (whoL m n) t), (1, true, .lb h p), (2, true, .lb l q)]) (F := F) rfl rfl hF ⟨⟨rfl, h0⟩, ⟨⟨rfl, h1⟩, ⟨⟨rfl, h2⟩, True.intro⟩⟩⟩) (by kernel_rfl) (by kernel_rfl) (cc rfl (p_box bx_93 g0 (od rfl id))
      (cc rfl (p_box bx_39 g0 (od rfl id))
      (cc rfl (p_box bx_39 g0 (od rfl id))
      (cc rfl (p_assign g0 (oc _)) cn)))) fun a1 w1 b1 s1 => ?_
  have z1 := b1
  refine wp_seq ?_
  refine flowT (s1.keep (sc 3 rfl (sc 4 rfl (sc 5 rfl (sc 6 rfl sn))))) (by kernel_rfl) (cc rfl (p_fieldAddr ptw0 fa_93_0 g0 (od rfl id))
      (cc rfl (p_load Try.underlying39 rfl sz_39 g0 (od rfl id))
      (cc rfl (p_load Try.underlying39 rfl sz_39 g0 (od rfl id))
      (cc rfl (p_call 85 g0 (ox (od rfl id) (ox (od rfl id) ox0)) (fun _ _ => by kernel_rfl) (f85 (by omega) (by omega)))
      (cc rfl (p_move g0 (od rfl id))
      (cc rfl (p_load Try.underlying39 rfl sz_39 (g1 rfl rfl) (od rfl (fun _ => rfl)))
      (cc rfl (p_call 87 (g1 rfl rfl) (ox (od rfl id) ox0) (fun _ _ => by kernel_rfl) (f87 (by omega)))
      (cc rfl (p_and g0 (od rfl id) (od rfl id))
      (cc rfl (p_move g0 (od rfl id))
      (cc rfl (p_fieldAddr ptw0 fa_93_0 (g1 rfl rfl) (od rfl (fun _ => rfl)))
      (cc rfl (p_load Try.underlying39 rfl sz_39 (g1 rfl rfl) (od rfl id))
      (cc rfl (p_load Try.underlying39 rfl sz_39 (g1 rfl rfl) (od rfl (fun _ => rfl)))
      (cc rfl (p_call 83 (g1 rfl rfl) (ox (od rfl id) (ox (od rfl id) ox0)) (fun _ _ => by kernel_rfl) (f83 (by omega)))
      (cc rfl (p_and g0 (od rfl id) (od rfl id))
      (cc rfl (p_move g0 (od rfl id))
      (cc rfl (p_load Try.underlying39 rfl sz_39 (g1 rfl rfl) (od rfl (fun _ => rfl)))
      (cc rfl (p_fieldAddr ptw1 fa_93_1 (g1 rfl rfl) (od rfl (fun _ => rfl)))
      (cc rfl (p_load Try.underlying39 rfl sz_39 (g1 rfl rfl) (od rfl id))
      (cc rfl (p_call 83 (g1 rfl rfl) (ox (od rfl id) (ox (od rfl id) ox0)) (fun _ _ => by kernel_rfl) (f83 (by omega)))
      (cc rfl (p_and g0 (od rfl id) (od rfl id))
      (cc rfl (p_move g0 (od rfl id))
      (cc rfl (p_load Try.underlying39 rfl sz_39 (g1 rfl rfl) (od rfl (fun _ => rfl)))
      (cc rfl (p_load Try.underlying39 rfl sz_39 (g1 rfl rfl) (od rfl (fun _ => rfl)))
      (cc rfl (p_call 83 (g1 rfl rfl) (ox (od rfl id) (ox (od rfl id) ox0)) (fun _ _ => by kernel_rfl) (f83 (by omega)))
      (cc rfl (p_and g0 (od rfl id) (od rfl id))
      (cc rfl (p_assign g0 (od rfl id)) cn)))))))))))))))))))))))))) fun a2 w2 b2 s2 => ?_
  have z2 := z1.trans (b2.mono z1.size)
  exact wp_ret (ret_tmp (fn := Try.f89) s2 6 rfl rfl (fun _ h => h) z2)

set_option maxRecDepth 100000 in
theorem f66 {t u : Lab × Lab} {h : Lab} {m n p q r : Nat} (hm : m ≤ 100) (hn : n ≤ 100) (hp : p ≤ 100) (hq : q ≤ 100) (hr : r ≤ 100) : Fn True Try.prog 66 [.st (whoL m n) t, .lb h p, .st (whoL q r) u] (.bool (giveB t h u)) := fn3 fun w F v0 v1 v2 h0 h1 h2 hF => by
  go_enter Try.func66, Try.ntmps66
  refine wp_seq ?_
  refine flowC mixed (st0 (U := True) (N := 39) (e := [(0, true, .st (whoL m n) t), (1, true, .lb h p), (2, true, .st (whoL q r) u)]) (F := F) rfl rfl hF ⟨⟨rfl, h0⟩, ⟨⟨rfl, h1⟩, ⟨⟨rfl, h2⟩, True.intro⟩⟩⟩) (by kernel_rfl) (by kernel_rfl) (cc rfl (p_box bx_83 g0 (od rfl id))
      (cc rfl (p_box bx_39 g0 (od rfl id))
      (cc rfl (p_box bx_83 g0 (od rfl id))
      (cc rfl (p_assign g0 (oc _)) cn)))) fun a1 w1 b1 s1 => ?_
  have z1 := b1
  refine wp_seq ?_
  refine flowC mixed (s1.keep (sc 3 rfl (sc 4 rfl (sc 5 rfl sn)))) (by kernel_rfl) (by kernel_rfl) (cc rfl (p_fieldAddr ptw0 fa_83_0 g0 (od rfl id))
      (cc rfl (p_load Try.underlying39 rfl sz_39 g0 (od rfl id))
      (cc rfl (p_load Try.underlying39 rfl sz_39 g0 (od rfl id))
      (cc rfl (p_call 55 g0 (ox (od rfl id) (ox (od rfl id) ox0)) (fun _ _ => by kernel_rfl) (f55 (by omega) (by omega)))
      (cc rfl (p_move g0 (od rfl id))
      (cc rfl (p_fieldAddr ptw0 fa_83_0 (g1 rfl rfl) (od rfl (fun _ => rfl)))
      (cc rfl (p_load Try.underlying39 rfl sz_39 (g1 rfl rfl) (od rfl id))
      (cc rfl (p_fieldAddr ptw0 fa_83_0 (g1 rfl rfl) (od rfl (fun _ => rfl)))
      (cc rfl (p_load Try.underlying39 rfl sz_39 (g1 rfl rfl) (od rfl id))
      (cc rfl (p_call 57 (g1 rfl rfl) (ox (od rfl id) (ox (od rfl id) ox0)) (fun _ _ => by kernel_rfl) (f57 (by omega)))
      (cc rfl (p_and g0 (od rfl id) (od rfl id))
      (cc rfl (p_move g0 (od rfl id))
      (cc rfl (p_fieldAddr ptw0 fa_83_0 (g1 rfl rfl) (od rfl (fun _ => rfl)))
      (cc rfl (p_load Try.underlying39 rfl sz_39 (g1 rfl rfl) (od rfl id))
      (cc rfl (p_fieldAddr ptw1 fa_83_1 (g1 rfl rfl) (od rfl (fun _ => rfl)))
      (cc rfl (p_load Try.underlying39 rfl sz_39 (g1 rfl rfl) (od rfl id))
      (cc rfl (p_call 57 (g1 rfl rfl) (ox (od rfl id) (ox (od rfl id) ox0)) (fun _ _ => by kernel_rfl) (f57 (by omega)))
      (cc rfl (p_and g0 (od rfl id) (od rfl id))
      (cc rfl (p_move g0 (od rfl id))
      (cc rfl (p_fieldAddr ptw1 fa_83_1 (g1 rfl rfl) (od rfl (fun _ => rfl)))
      (cc rfl (p_load Try.underlying39 rfl sz_39 (g1 rfl rfl) (od rfl id))
      (cc rfl (p_fieldAddr ptw1 fa_83_1 (g1 rfl rfl) (od rfl (fun _ => rfl)))
      (cc rfl (p_load Try.underlying39 rfl sz_39 (g1 rfl rfl) (od rfl id))
      (cc rfl (p_call 57 (g1 rfl rfl) (ox (od rfl id) (ox (od rfl id) ox0)) (fun _ _ => by kernel_rfl) (f57 (by omega)))
      (cc rfl (p_and g0 (od rfl id) (od rfl id))
      (cc rfl (p_move g0 (od rfl id))
      (cc rfl (p_load Try.underlying39 rfl sz_39 (g1 rfl rfl) (od rfl (fun _ => rfl)))
      (cc rfl (p_fieldAddr ptw0 fa_83_0 (g1 rfl rfl) (od rfl (fun _ => rfl)))
      (cc rfl (p_load Try.underlying39 rfl sz_39 (g1 rfl rfl) (od rfl id))
      (cc rfl (p_call 63 (g1 rfl rfl) (ox (od rfl id) ox0) (fun _ _ => by kernel_rfl) (f63 (by omega)))
      (cc rfl (p_call 57 (g1 rfl rfl) (ox (od rfl id) (ox (od rfl id) ox0)) (fun _ _ => by kernel_rfl) (f57 (by omega)))
      (cc rfl (p_and g0 (od rfl id) (od rfl id))
      (cc rfl (p_assign g0 (od rfl id)) cn))))))))))))))))))))))))))))))))) fun a2 w2 b2 s2 => ?_
  have z2 := z1.trans (b2.mono z1.size)
  exact wp_ret (ret_tmp (fn := Try.f66) s2 6 rfl rfl (fun _ h => h) z2)

set_option maxRecDepth 100000 in
theorem f70 {t u : Lab × Lab} {h : Lab} {m n p q r : Nat} (hm : m ≤ 100) (hn : n ≤ 100) (hp : p ≤ 100) (hq : q ≤ 100) (hr : r ≤ 100) : Fn True Try.prog 70 [.st (whoL m n) t, .lb h p, .st (whoL q r) u] (.bool (rgiveB t h u)) := fn3 fun w F v0 v1 v2 h0 h1 h2 hF => by
  go_enter Try.func70, Try.ntmps70
  refine wp_seq ?_
  refine flowC mixed (st0 (U := True) (N := 39) (e := [(0, true, .st (whoL m n) t), (1, true, .lb h p), (2, true, .st (whoL q r) u)]) (F := F) rfl rfl hF ⟨⟨rfl, h0⟩, ⟨⟨rfl, h1⟩, ⟨⟨rfl, h2⟩, True.intro⟩⟩⟩) (by kernel_rfl) (by kernel_rfl) (cc rfl (p_box bx_93 g0 (od rfl id))
      (cc rfl (p_box bx_39 g0 (od rfl id))
      (cc rfl (p_box bx_93 g0 (od rfl id))
      (cc rfl (p_assign g0 (oc _)) cn)))) fun a1 w1 b1 s1 => ?_
  have z1 := b1
  refine wp_seq ?_
  refine flowC mixed (s1.keep (sc 3 rfl (sc 4 rfl (sc 5 rfl sn)))) (by kernel_rfl) (by kernel_rfl) (cc rfl (p_fieldAddr ptw0 fa_93_0 g0 (od rfl id))
      (cc rfl (p_load Try.underlying39 rfl sz_39 g0 (od rfl id))
      (cc rfl (p_load Try.underlying39 rfl sz_39 g0 (od rfl id))
      (cc rfl (p_call 85 g0 (ox (od rfl id) (ox (od rfl id) ox0)) (fun _ _ => by kernel_rfl) (f85 (by omega) (by omega)))
      (cc rfl (p_move g0 (od rfl id))
      (cc rfl (p_fieldAddr ptw0 fa_93_0 (g1 rfl rfl) (od rfl (fun _ => rfl)))
      (cc rfl (p_load Try.underlying39 rfl sz_39 (g1 rfl rfl) (od rfl id))
      (cc rfl (p_fieldAddr ptw0 fa_93_0 (g1 rfl rfl) (od rfl (fun _ => rfl)))
      (cc rfl (p_load Try.underlying39 rfl sz_39 (g1 rfl rfl) (od rfl id))
      (cc rfl (p_call 83 (g1 rfl rfl) (ox (od rfl id) (ox (od rfl id) ox0)) (fun _ _ => by kernel_rfl) (f83 (by omega)))
      (cc rfl (p_and g0 (od rfl id) (od rfl id))
      (cc rfl (p_move g0 (od rfl id))
      (cc rfl (p_fieldAddr ptw0 fa_93_0 (g1 rfl rfl) (od rfl (fun _ => rfl)))
      (cc rfl (p_load Try.underlying39 rfl sz_39 (g1 rfl rfl) (od rfl id))
      (cc rfl (p_fieldAddr ptw1 fa_93_1 (g1 rfl rfl) (od rfl (fun _ => rfl)))
      (cc rfl (p_load Try.underlying39 rfl sz_39 (g1 rfl rfl) (od rfl id))
      (cc rfl (p_call 83 (g1 rfl rfl) (ox (od rfl id) (ox (od rfl id) ox0)) (fun _ _ => by kernel_rfl) (f83 (by omega)))
      (cc rfl (p_and g0 (od rfl id) (od rfl id))
      (cc rfl (p_move g0 (od rfl id))
      (cc rfl (p_fieldAddr ptw1 fa_93_1 (g1 rfl rfl) (od rfl (fun _ => rfl)))
      (cc rfl (p_load Try.underlying39 rfl sz_39 (g1 rfl rfl) (od rfl id))
      (cc rfl (p_fieldAddr ptw1 fa_93_1 (g1 rfl rfl) (od rfl (fun _ => rfl)))
      (cc rfl (p_load Try.underlying39 rfl sz_39 (g1 rfl rfl) (od rfl id))
      (cc rfl (p_call 83 (g1 rfl rfl) (ox (od rfl id) (ox (od rfl id) ox0)) (fun _ _ => by kernel_rfl) (f83 (by omega)))
      (cc rfl (p_and g0 (od rfl id) (od rfl id))
      (cc rfl (p_move g0 (od rfl id))
      (cc rfl (p_load Try.underlying39 rfl sz_39 (g1 rfl rfl) (od rfl (fun _ => rfl)))
      (cc rfl (p_fieldAddr ptw0 fa_93_0 (g1 rfl rfl) (od rfl (fun _ => rfl)))
      (cc rfl (p_load Try.underlying39 rfl sz_39 (g1 rfl rfl) (od rfl id))
      (cc rfl (p_call 77 (g1 rfl rfl) (ox (od rfl id) ox0) (fun _ _ => by kernel_rfl) (f77 (by omega)))
      (cc rfl (p_call 83 (g1 rfl rfl) (ox (od rfl id) (ox (od rfl id) ox0)) (fun _ _ => by kernel_rfl) (f83 (by omega)))
      (cc rfl (p_and g0 (od rfl id) (od rfl id))
      (cc rfl (p_assign g0 (od rfl id)) cn))))))))))))))))))))))))))))))))) fun a2 w2 b2 s2 => ?_
  have z2 := z1.trans (b2.mono z1.size)
  exact wp_ret (ret_tmp (fn := Try.f70) s2 6 rfl rfl (fun _ h => h) z2)

set_option maxRecDepth 100000 in
theorem f65 {t : Lab × Lab} {l : Lab} {m n p : Nat} (hm : m ≤ 100) (hn : n ≤ 100) (hp : p ≤ 100) : Fn True Try.prog 65 [.st (whoL m n) t, .lb l p] (.bool (selfB t l)) := fn2 fun w F v0 v1 h0 h1 hF => by
  go_enter Try.func65, Try.ntmps65
  refine wp_seq ?_
  refine flowC mixed (st0 (U := True) (N := 15) (e := [(0, true, .st (whoL m n) t), (1, true, .lb l p)]) (F := F) rfl rfl hF ⟨⟨rfl, h0⟩, ⟨⟨rfl, h1⟩, True.intro⟩⟩) (by kernel_rfl) (by kernel_rfl) (cc rfl (p_box bx_83 g0 (od rfl id))
      (cc rfl (p_box bx_39 g0 (od rfl id))
      (cc rfl (p_assign g0 (oc _)) cn))) fun a1 w1 b1 s1 => ?_
  have z1 := b1
  refine wp_seq ?_
  refine flowT (s1.keep (sc 2 rfl (sc 3 rfl (sc 4 rfl sn)))) (by kernel_rfl) (cc rfl (p_fieldAddr ptw0 fa_83_0 g0 (od rfl id))
      (cc rfl (p_load Try.underlying39 rfl sz_39 g0 (od rfl id))
      (cc rfl (p_load Try.underlying39 rfl sz_39 g0 (od rfl id))
      (cc rfl (p_call 57 g0 (ox (od rfl id) (ox (od rfl id) ox0)) (fun _ _ => by kernel_rfl) (f57 (by omega)))
      (cc rfl (p_move g0 (od rfl id))
      (cc rfl (p_load Try.underlying39 rfl sz_39 (g1 rfl rfl) (od rfl (fun _ => rfl)))
      (cc rfl (p_fieldAddr ptw1 fa_83_1 (g1 rfl rfl) (od rfl (fun _ => rfl)))
      (cc rfl (p_load Try.underlying39 rfl sz_39 (g1 rfl rfl) (od rfl id))
      (cc rfl (p_call 57 (g1 rfl rfl) (ox (od rfl id) (ox (od rfl id) ox0)) (fun _ _ => by kernel_rfl) (f57 (by omega)))
      (cc rfl (p_and g0 (od rfl id) (od rfl id))
      (cc rfl (p_assign g0 (od rfl id)) cn))))))))))) fun a2 w2 b2 s2 => ?_
  have z2 := z1.trans (b2.mono z1.size)
  exact wp_ret (ret_tmp (fn := Try.f65) s2 4 rfl rfl (fun _ h => h) z2)

set_option maxRecDepth 100000 in
theorem f90 {t : Lab × Lab} {l : Lab} {m n p : Nat} (hm : m ≤ 100) (hn : n ≤ 100) (hp : p ≤ 100) : Fn True Try.prog 90 [.st (whoL m n) t, .lb l p] (.bool (selfB t l)) := fn2 fun w F v0 v1 h0 h1 hF => by
  go_enter Try.func90, Try.ntmps90
  refine wp_seq ?_
  refine flowC mixed (st0 (U := True) (N := 15) (e := [(0, true, .st (whoL m n) t), (1, true, .lb l p)]) (F := F) rfl rfl hF ⟨⟨rfl, h0⟩, ⟨⟨rfl, h1⟩, True.intro⟩⟩) (by kernel_rfl) (by kernel_rfl) (cc rfl (p_box bx_93 g0 (od rfl id))
      (cc rfl (p_box bx_39 g0 (od rfl id))
      (cc rfl (p_assign g0 (oc _)) cn))) fun a1 w1 b1 s1 => ?_
  have z1 := b1
  refine wp_seq ?_
  refine flowT (s1.keep (sc 2 rfl (sc 3 rfl (sc 4 rfl sn)))) (by kernel_rfl) (cc rfl (p_fieldAddr ptw0 fa_93_0 g0 (od rfl id))
      (cc rfl (p_load Try.underlying39 rfl sz_39 g0 (od rfl id))
      (cc rfl (p_load Try.underlying39 rfl sz_39 g0 (od rfl id))
      (cc rfl (p_call 83 g0 (ox (od rfl id) (ox (od rfl id) ox0)) (fun _ _ => by kernel_rfl) (f83 (by omega)))
      (cc rfl (p_move g0 (od rfl id))
      (cc rfl (p_load Try.underlying39 rfl sz_39 (g1 rfl rfl) (od rfl (fun _ => rfl)))
      (cc rfl (p_fieldAddr ptw1 fa_93_1 (g1 rfl rfl) (od rfl (fun _ => rfl)))
      (cc rfl (p_load Try.underlying39 rfl sz_39 (g1 rfl rfl) (od rfl id))
      (cc rfl (p_call 83 (g1 rfl rfl) (ox (od rfl id) (ox (od rfl id) ox0)) (fun _ _ => by kernel_rfl) (f83 (by omega)))
      (cc rfl (p_and g0 (od rfl id) (od rfl id))
      (cc rfl (p_assign g0 (od rfl id)) cn))))))))))) fun a2 w2 b2 s2 => ?_
  have z2 := z1.trans (b2.mono z1.size)
  exact wp_ret (ret_tmp (fn := Try.f90) s2 4 rfl rfl (fun _ h => h) z2)

set_option maxRecDepth 100000 in
theorem f91 {t : Lab × Lab} {l : Lab} {m n p : Nat} (hm : m ≤ 100) (hn : n ≤ 100) (hp : p ≤ 100) : Fn True Try.prog 91 [.st (whoL m n) t, .lb l p] (.bool (clearB t l)) := fn2 fun w F v0 v1 h0 h1 hF => by
  go_enter Try.func91, Try.ntmps91
  refine wp_seq ?_
  refine flowC mixed (st0 (U := True) (N := 23) (e := [(0, true, .st (whoL m n) t), (1, true, .lb l p)]) (F := F) rfl rfl hF ⟨⟨rfl, h0⟩, ⟨⟨rfl, h1⟩, True.intro⟩⟩) (by kernel_rfl) (by kernel_rfl) (cc rfl (p_box bx_83 g0 (od rfl id))
      (cc rfl (p_box bx_39 g0 (od rfl id))
      (cc rfl (p_assign g0 (oc _)) cn))) fun a1 w1 b1 s1 => ?_
  have z1 := b1
  refine wp_seq ?_
  refine flowC mixed (s1.keep (sc 2 rfl (sc 3 rfl sn))) (by kernel_rfl) (by kernel_rfl) (cc rfl (p_fieldAddr ptw0 fa_83_0 g0 (od rfl id))
      (cc rfl (p_load Try.underlying39 rfl sz_39 g0 (od rfl id))
      (cc rfl (p_load Try.underlying39 rfl sz_39 g0 (od rfl id))
      (cc rfl (p_call 57 g0 (ox (od rfl id) (ox (od rfl id) ox0)) (fun _ _ => by kernel_rfl) (f57 (by omega)))
      (cc rfl (p_move g0 (od rfl id))
      (cc rfl (p_load Try.underlying39 rfl sz_39 (g1 rfl rfl) (od rfl (fun _ => rfl)))
      (cc rfl (p_fieldAddr ptw1 fa_83_1 (g1 rfl rfl) (od rfl (fun _ => rfl)))
      (cc rfl (p_load Try.underlying39 rfl sz_39 (g1 rfl rfl) (od rfl id))
      (cc rfl (p_fieldAddr ptw0 fa_83_0 (g1 rfl rfl) (od rfl (fun _ => rfl)))
      (cc rfl (p_load Try.underlying39 rfl sz_39 (g1 rfl rfl) (od rfl id))
      (cc rfl (p_call 74 (g1 rfl rfl) (ox (od rfl id) ox0) (fun _ _ => by kernel_rfl) (f74 (by omega)))
      (cc rfl (p_call 58 (g1 rfl rfl) (ox (od rfl id) (ox (od rfl id) ox0)) (fun _ _ => by kernel_rfl) (f58 (by omega)))
      (cc rfl (p_call 57 (g1 rfl rfl) (ox (od rfl id) (ox (od rfl id) ox0)) (fun _ _ => by kernel_rfl) (f57 (by omega)))
      (cc rfl (p_and g0 (od rfl id) (od rfl id))
      (cc rfl (p_move g0 (od rfl id))
      (cc rfl (p_load Try.underlying39 rfl sz_39 (g1 rfl rfl) (od rfl (fun _ => rfl)))
      (cc rfl (p_call 49 (g1 rfl rfl) (ox (od rfl id) ox0) (fun _ _ => by kernel_rfl) (f49 (by omega)))
      (cc rfl (p_and g0 (od rfl id) (od rfl id))
      (cc rfl (p_assign g0 (od rfl id)) cn))))))))))))))))))) fun a2 w2 b2 s2 => ?_
  have z2 := z1.trans (b2.mono z1.size)
  exact wp_ret (ret_tmp (fn := Try.f91) s2 4 rfl rfl (fun _ h => h) z2)

set_option maxRecDepth 100000 in
theorem f67 {t g u : Lab × Lab} {h : Lab} {m n p q r i j : Nat} (hm : m ≤ 100) (hn : n ≤ 100) (hp : p ≤ 100) (hq : q ≤ 100) (hr : r ≤ 100) (hi : i ≤ 100) (hj : j ≤ 100) : Fn True Try.prog 67 [.st (whoL m n) t, .lb h p, .st (whoL q r) g, .st (whoL i j) u] (.bool (enterB t h g u)) := fn4 fun w F v0 v1 v2 v3 h0 h1 h2 h3 hF => by
  go_enter Try.func67, Try.ntmps67
  refine wp_seq ?_
  refine flowC mixed (st0 (U := True) (N := 48) (e := [(0, true, .st (whoL m n) t), (1, true, .lb h p), (2, true, .st (whoL q r) g), (3, true, .st (whoL i j) u)]) (F := F) rfl rfl hF ⟨⟨rfl, h0⟩, ⟨⟨rfl, h1⟩, ⟨⟨rfl, h2⟩, ⟨⟨rfl, h3⟩, True.intro⟩⟩⟩⟩) (by kernel_rfl) (by kernel_rfl) (cc rfl (p_box bx_83 g0 (od rfl id))
      (cc rfl (p_box bx_39 g0 (od rfl id))
      (cc rfl (p_box bx_83 g0 (od rfl id))
      (cc rfl (p_box bx_83 g0 (od rfl id))
      (cc rfl (p_assign g0 (oc _)) cn))))) fun a1 w1 b1 s1 => ?_
  have z1 := b1
  refine wp_seq ?_
  refine flowC mixed (s1.keep (sc 4 rfl (sc 5 rfl (sc 6 rfl (sc 7 rfl sn))))) (by kernel_rfl) (by kernel_rfl) (cc rfl (p_fieldAddr ptw0 fa_83_0 g0 (od rfl id))
      (cc rfl (p_load Try.underlying39 rfl sz_39 g0 (od rfl id))
      (cc rfl (p_fieldAddr ptw1 fa_83_1 g0 (od rfl id))
      (cc rfl (p_load Try.underlying39 rfl sz_39 g0 (od rfl id))
      (cc rfl (p_call 57 g0 (ox (od rfl id) (ox (od rfl id) ox0)) (fun _ _ => by kernel_rfl) (f57 (by omega)))
      (cc rfl (p_move g0 (od rfl id))
      (cc rfl (p_fieldAddr ptw0 fa_83_0 (g1 rfl rfl) (od rfl (fun _ => rfl)))
      (cc rfl (p_load Try.underlying39 rfl sz_39 (g1 rfl rfl) (od rfl id))
      (cc rfl (p_fieldAddr ptw0 fa_83_0 (g1 rfl rfl) (od rfl (fun _ => rfl)))
      (cc rfl (p_load Try.underlying39 rfl sz_39 (g1 rfl rfl) (od rfl id))
      (cc rfl (p_call 61 (g1 rfl rfl) (ox (od rfl id) (ox (od rfl id) ox0)) (fun _ _ => by kernel_rfl) (f61 (by omega) (by omega)))
      (cc rfl (p_fieldAddr ptw0 fa_83_0 (g1 rfl rfl) (od rfl (fun _ => rfl)))
      (cc rfl (p_load Try.underlying39 rfl sz_39 (g1 rfl rfl) (od rfl id))
      (cc rfl (p_call 57 (g1 rfl rfl) (ox (od rfl id) (ox (od rfl id) ox0)) (fun _ _ => by kernel_rfl) (f57 (by omega)))
      (cc rfl (p_and g0 (od rfl id) (od rfl id))
      (cc rfl (p_move g0 (od rfl id))
      (cc rfl (p_fieldAddr ptw0 fa_83_0 (g1 rfl rfl) (od rfl (fun _ => rfl)))
      (cc rfl (p_load Try.underlying39 rfl sz_39 (g1 rfl rfl) (od rfl id))
      (cc rfl (p_fieldAddr ptw1 fa_83_1 (g1 rfl rfl) (od rfl (fun _ => rfl)))
      (cc rfl (p_load Try.underlying39 rfl sz_39 (g1 rfl rfl) (od rfl id))
      (cc rfl (p_call 57 (g1 rfl rfl) (ox (od rfl id) (ox (od rfl id) ox0)) (fun _ _ => by kernel_rfl) (f57 (by omega)))
      (cc rfl (p_and g0 (od rfl id) (od rfl id))
      (cc rfl (p_move g0 (od rfl id))
      (cc rfl (p_fieldAddr ptw1 fa_83_1 (g1 rfl rfl) (od rfl (fun _ => rfl)))
      (cc rfl (p_load Try.underlying39 rfl sz_39 (g1 rfl rfl) (od rfl id))
      (cc rfl (p_fieldAddr ptw1 fa_83_1 (g1 rfl rfl) (od rfl (fun _ => rfl)))
      (cc rfl (p_load Try.underlying39 rfl sz_39 (g1 rfl rfl) (od rfl id))
      (cc rfl (p_fieldAddr ptw1 fa_83_1 (g1 rfl rfl) (od rfl (fun _ => rfl)))
      (cc rfl (p_load Try.underlying39 rfl sz_39 (g1 rfl rfl) (od rfl id))
      (cc rfl (p_call 58 (g1 rfl rfl) (ox (od rfl id) (ox (od rfl id) ox0)) (fun _ _ => by kernel_rfl) (f58 (by omega)))
      (cc rfl (p_call 57 (g1 rfl rfl) (ox (od rfl id) (ox (od rfl id) ox0)) (fun _ _ => by kernel_rfl) (f57 (by omega)))
      (cc rfl (p_and g0 (od rfl id) (od rfl id))
      (cc rfl (p_move g0 (od rfl id))
      (cc rfl (p_load Try.underlying39 rfl sz_39 (g1 rfl rfl) (od rfl (fun _ => rfl)))
      (cc rfl (p_fieldAddr ptw0 fa_83_0 (g1 rfl rfl) (od rfl (fun _ => rfl)))
      (cc rfl (p_load Try.underlying39 rfl sz_39 (g1 rfl rfl) (od rfl id))
      (cc rfl (p_call 63 (g1 rfl rfl) (ox (od rfl id) ox0) (fun _ _ => by kernel_rfl) (f63 (by omega)))
      (cc rfl (p_call 57 (g1 rfl rfl) (ox (od rfl id) (ox (od rfl id) ox0)) (fun _ _ => by kernel_rfl) (f57 (by omega)))
      (cc rfl (p_and g0 (od rfl id) (od rfl id))
      (cc rfl (p_assign g0 (od rfl id)) cn)))))))))))))))))))))))))))))))))))))))) fun a2 w2 b2 s2 => ?_
  have z2 := z1.trans (b2.mono z1.size)
  exact wp_ret (ret_tmp (fn := Try.f67) s2 8 rfl rfl (fun _ h => h) z2)

set_option maxRecDepth 100000 in
theorem f71 {t g u : Lab × Lab} {h : Lab} {m n p q r i j : Nat} (hm : m ≤ 100) (hn : n ≤ 100) (hp : p ≤ 100) (hq : q ≤ 100) (hr : r ≤ 100) (hi : i ≤ 100) (hj : j ≤ 100) : Fn True Try.prog 71 [.st (whoL m n) t, .lb h p, .st (whoL q r) g, .st (whoL i j) u] (.bool (enterB t h g u)) := fn4 fun w F v0 v1 v2 v3 h0 h1 h2 h3 hF => by
  go_enter Try.func71, Try.ntmps71
  refine wp_seq ?_
  refine flowC mixed (st0 (U := True) (N := 48) (e := [(0, true, .st (whoL m n) t), (1, true, .lb h p), (2, true, .st (whoL q r) g), (3, true, .st (whoL i j) u)]) (F := F) rfl rfl hF ⟨⟨rfl, h0⟩, ⟨⟨rfl, h1⟩, ⟨⟨rfl, h2⟩, ⟨⟨rfl, h3⟩, True.intro⟩⟩⟩⟩) (by kernel_rfl) (by kernel_rfl) (cc rfl (p_box bx_93 g0 (od rfl id))
      (cc rfl (p_box bx_39 g0 (od rfl id))
      (cc rfl (p_box bx_93 g0 (od rfl id))
      (cc rfl (p_box bx_93 g0 (od rfl id))
      (cc rfl (p_assign g0 (oc _)) cn))))) fun a1 w1 b1 s1 => ?_
  have z1 := b1
  refine wp_seq ?_
  refine flowC mixed (s1.keep (sc 4 rfl (sc 5 rfl (sc 6 rfl (sc 7 rfl sn))))) (by kernel_rfl) (by kernel_rfl) (cc rfl (p_fieldAddr ptw0 fa_93_0 g0 (od rfl id))
      (cc rfl (p_load Try.underlying39 rfl sz_39 g0 (od rfl id))
      (cc rfl (p_fieldAddr ptw1 fa_93_1 g0 (od rfl id))
      (cc rfl (p_load Try.underlying39 rfl sz_39 g0 (od rfl id))
      (cc rfl (p_call 83 g0 (ox (od rfl id) (ox (od rfl id) ox0)) (fun _ _ => by kernel_rfl) (f83 (by omega)))
      (cc rfl (p_move g0 (od rfl id))
      (cc rfl (p_fieldAddr ptw0 fa_93_0 (g1 rfl rfl) (od rfl (fun _ => rfl)))
      (cc rfl (p_load Try.underlying39 rfl sz_39 (g1 rfl rfl) (od rfl id))
      (cc rfl (p_fieldAddr ptw0 fa_93_0 (g1 rfl rfl) (od rfl (fun _ => rfl)))
      (cc rfl (p_load Try.underlying39 rfl sz_39 (g1 rfl rfl) (od rfl id))
      (cc rfl (p_call 72 (g1 rfl rfl) (ox (od rfl id) (ox (od rfl id) ox0)) (fun _ _ => by kernel_rfl) (f72 (by omega) (by omega)))
      (cc rfl (p_fieldAddr ptw0 fa_93_0 (g1 rfl rfl) (od rfl (fun _ => rfl)))
      (cc rfl (p_load Try.underlying39 rfl sz_39 (g1 rfl rfl) (od rfl id))
      (cc rfl (p_call 83 (g1 rfl rfl) (ox (od rfl id) (ox (od rfl id) ox0)) (fun _ _ => by kernel_rfl) (f83 (by omega)))
      (cc rfl (p_and g0 (od rfl id) (od rfl id))
      (cc rfl (p_move g0 (od rfl id))
      (cc rfl (p_fieldAddr ptw0 fa_93_0 (g1 rfl rfl) (od rfl (fun _ => rfl)))
      (cc rfl (p_load Try.underlying39 rfl sz_39 (g1 rfl rfl) (od rfl id))
      (cc rfl (p_fieldAddr ptw1 fa_93_1 (g1 rfl rfl) (od rfl (fun _ => rfl)))
      (cc rfl (p_load Try.underlying39 rfl sz_39 (g1 rfl rfl) (od rfl id))
      (cc rfl (p_call 83 (g1 rfl rfl) (ox (od rfl id) (ox (od rfl id) ox0)) (fun _ _ => by kernel_rfl) (f83 (by omega)))
      (cc rfl (p_and g0 (od rfl id) (od rfl id))
      (cc rfl (p_move g0 (od rfl id))
      (cc rfl (p_fieldAddr ptw1 fa_93_1 (g1 rfl rfl) (od rfl (fun _ => rfl)))
      (cc rfl (p_load Try.underlying39 rfl sz_39 (g1 rfl rfl) (od rfl id))
      (cc rfl (p_fieldAddr ptw1 fa_93_1 (g1 rfl rfl) (od rfl (fun _ => rfl)))
      (cc rfl (p_load Try.underlying39 rfl sz_39 (g1 rfl rfl) (od rfl id))
      (cc rfl (p_fieldAddr ptw1 fa_93_1 (g1 rfl rfl) (od rfl (fun _ => rfl)))
      (cc rfl (p_load Try.underlying39 rfl sz_39 (g1 rfl rfl) (od rfl id))
      (cc rfl (p_call 75 (g1 rfl rfl) (ox (od rfl id) (ox (od rfl id) (ox (oc _) ox0))) (fun _ _ => by kernel_rfl) (f75 (by omega)))
      (cc rfl (p_call 83 (g1 rfl rfl) (ox (od rfl id) (ox (od rfl id) ox0)) (fun _ _ => by kernel_rfl) (f83 (by omega)))
      (cc rfl (p_and g0 (od rfl id) (od rfl id))
      (cc rfl (p_move g0 (od rfl id))
      (cc rfl (p_load Try.underlying39 rfl sz_39 (g1 rfl rfl) (od rfl (fun _ => rfl)))
      (cc rfl (p_fieldAddr ptw0 fa_93_0 (g1 rfl rfl) (od rfl (fun _ => rfl)))
      (cc rfl (p_load Try.underlying39 rfl sz_39 (g1 rfl rfl) (od rfl id))
      (cc rfl (p_call 77 (g1 rfl rfl) (ox (od rfl id) ox0) (fun _ _ => by kernel_rfl) (f77 (by omega)))
      (cc rfl (p_call 83 (g1 rfl rfl) (ox (od rfl id) (ox (od rfl id) ox0)) (fun _ _ => by kernel_rfl) (f83 (by omega)))
      (cc rfl (p_and g0 (od rfl id) (od rfl id))
      (cc rfl (p_assign g0 (od rfl id)) cn)))))))))))))))))))))))))))))))))))))))) fun a2 w2 b2 s2 => ?_
  have z2 := z1.trans (b2.mono z1.size)
  exact wp_ret (ret_tmp (fn := Try.f71) s2 8 rfl rfl (fun _ h => h) z2)

set_option maxRecDepth 100000 in
theorem f68 {t : Lab × Lab} {c : Int} {m n : Nat} (hm : m ≤ 100) (hn : n ≤ 100) (hc : 0 < c) : Fn True Try.prog 68 [.st (whoL m n) t, .int .u32 c] (.two (.st (whoL (m + 1) (n + 1)) (freshL t c)) (.bool (freshB' t c))) := fn2 fun w F v0 v1 h0 h1 hF => by
  go_enter Try.func68, Try.ntmps68
  refine wp_seq ?_
  refine flowN mixed (st0 (U := True) (N := 25) (e := [(0, true, .st (whoL m n) t), (1, true, .int .u32 c)]) (F := F) rfl rfl hF ⟨⟨rfl, h0⟩, ⟨⟨rfl, h1⟩, True.intro⟩⟩) (by kernel_rfl) (by kernel_rfl) (cc rfl (p_box bx_83 g0 (od rfl id))
      (ca rfl (m_alloc al_83 nu83)
      (cc rfl (p_assign g0 (oc _)) cn))) (by kernel_rfl) fun a1 w1 gs1 b1 s1 n1 hh1 m1 => ?_
  have z1 := b1
  obtain ⟨g4, rfl, p4, k4⟩ := made1 m1
  have hg4 := hh1 g4 (by simp)
  have s1 := s1.more 4 (y := .val (.pointer (some ⟨g4, 0, none⟩))) p4
  refine wp_seq ?_
  refine flowQ 10 mixed (s1.keep (sc 1 rfl (sc 2 rfl (sc 4 rfl (sc 5 rfl sn))))) (by kernel_rfl) (by kernel_rfl) (cc rfl (p_fieldAddr ptw0 fa_83_0 g0 (od rfl id))
      (cc rfl (p_load Try.underlying39 rfl sz_39 g0 (od rfl id))
      (cc rfl (p_move g0 (od rfl id))
      (cc rfl (p_call 50 g0 (ox (od rfl id) (ox (od rfl id) (ox (oc _) ox0))) (fun _ _ => by kernel_rfl) (f50 (by omega) hc))
      (cc rfl (p_fieldAddr ptw1 fa_83_1 g0 (od rfl id))
      (cc rfl (p_load Try.underlying39 rfl sz_39 g0 (od rfl id))
      (cc rfl (p_move g0 (od rfl id))
      (cc rfl (p_call 50 g0 (ox (od rfl id) (ox (od rfl id) (ox (oc _) ox0))) (fun _ _ => by kernel_rfl) (f50 (by omega) hc))
      (cc rfl (p_build2 bd_83 g0 (od rfl id) (od rfl id))
      (ca rfl (m_alloc al_83 nu83) cn)))))))))) (by kernel_rfl) (ss rfl rfl rfl rfl puts_st sz_83 rfl rfl ss0) fun a2 w2 b2 s2 => ?_
  have z2 := z1.trans (b2.mono z1.size)
  have k4 := k4.below b2 k4.lt
  refine wp_seq ?_
  refine flowW 10 9 4 16 mixed (s2.keep (sc 4 rfl (sc 6 rfl sn))) (by kernel_rfl) (by kernel_rfl) (cc rfl (p_load Try.underlying83 rfl sz_83 g0 (od rfl id))
      (cc rfl (p_fieldAddr ptw0 fa_83_0 g0 (od rfl id))
      (cc rfl (p_load Try.underlying39 rfl sz_39 g0 (od rfl id))
      (cc rfl (p_call 49 g0 (ox (od rfl id) ox0) (fun _ _ => by kernel_rfl) (f49 (by omega)))
      (cc rfl (p_move g0 (od rfl id))
      (cc rfl (p_fieldAddr ptw1 fa_83_1 (g1 rfl rfl) (od rfl (fun _ => rfl)))
      (cc rfl (p_load Try.underlying39 rfl sz_39 (g1 rfl rfl) (od rfl id))
      (cc rfl (p_call 49 (g1 rfl rfl) (ox (od rfl id) ox0) (fun _ _ => by kernel_rfl) (f49 (by omega)))
      (cc rfl (p_and g0 (od rfl id) (od rfl id))
      (cs rfl cn)))))))))) rfl rfl rfl sz_83 rfl rfl k4 rfl (fun _ => .inr (by simp)) nuw (by decide) fun a3 w3 c3 r3 s3 k4 l3 => ?_
  have z3 := below_grown z2 r3 hg4
  refine chainT (t := []) (cc rfl (p_assign g0 (od rfl id)) cn) (by kernel_rfl) s3 fun a4 w4 b4 s4 => wpList_done ?_
  have z4 := z3.trans (b4.mono z3.size)
  have k4 := k4.below b4 k4.lt
  exact wp_ret (ret_cell2 (fn := Try.f68) s4 4 5 rfl rfl rfl Try.underlying83 rfl sz_83 k4 (Lay.mono _ l3 (.of b4) fun _ _ h => h) (fun _ h => Or.inl h) z4)

set_option maxRecDepth 100000 in
theorem f73 {t u : Lab × Lab} {m n p q : Nat} (hm : m ≤ 100) (hn : n ≤ 100) : Fn True Try.prog 73 [.st (whoL m n) t, .st (whoL p q) u] (.bool (sameW t u)) := fn2 fun w F v0 v1 h0 h1 hF => by
  go_enter Try.func73, Try.ntmps73
  refine wp_seq ?_
  refine flowC mixed (st0 (U := True) (N := 17) (e := [(0, true, .st (whoL m n) t), (1, true, .st (whoL p q) u)]) (F := F) rfl rfl hF ⟨⟨rfl, h0⟩, ⟨⟨rfl, h1⟩, True.intro⟩⟩) (by kernel_rfl) (by kernel_rfl) (cc rfl (p_box bx_83 g0 (od rfl id))
      (cc rfl (p_box bx_93 g0 (od rfl id))
      (cc rfl (p_assign g0 (oc _)) cn))) fun a1 w1 b1 s1 => ?_
  have z1 := b1
  refine wp_seq ?_
  refine flowT (s1.keep (sc 2 rfl (sc 3 rfl (sc 4 rfl sn)))) (by kernel_rfl) (cc rfl (p_fieldAddr ptw0 fa_83_0 g0 (od rfl id))
      (cc rfl (p_load Try.underlying39 rfl sz_39 g0 (od rfl id))
      (cc rfl (p_fieldAddr ptw0 fa_93_0 g0 (od rfl id))
      (cc rfl (p_load Try.underlying39 rfl sz_39 g0 (od rfl id))
      (cc rfl (p_call 38 g0 (ox (od rfl id) (ox (od rfl id) ox0)) (fun _ _ => by kernel_rfl) (f38 (by omega)))
      (cc rfl (p_move g0 (od rfl id))
      (cc rfl (p_fieldAddr ptw1 fa_83_1 (g1 rfl rfl) (od rfl (fun _ => rfl)))
      (cc rfl (p_load Try.underlying39 rfl sz_39 (g1 rfl rfl) (od rfl id))
      (cc rfl (p_fieldAddr ptw1 fa_93_1 (g1 rfl rfl) (od rfl (fun _ => rfl)))
      (cc rfl (p_load Try.underlying39 rfl sz_39 (g1 rfl rfl) (od rfl id))
      (cc rfl (p_call 38 (g1 rfl rfl) (ox (od rfl id) (ox (od rfl id) ox0)) (fun _ _ => by kernel_rfl) (f38 (by omega)))
      (cc rfl (p_and g0 (od rfl id) (od rfl id))
      (cc rfl (p_assign g0 (od rfl id)) cn))))))))))))) fun a2 w2 b2 s2 => ?_
  have z2 := z1.trans (b2.mono z1.size)
  exact wp_ret (ret_tmp (fn := Try.f73) s2 4 rfl rfl (fun _ h => h) z2)

end Go.Proofs.Ytihddficgpjgpaa.Y
