/- The head of the program's text, word by word: what each row asks of it. -/
import Derived.Test.YtbeeiecbbmiojaaFrame
namespace Go.Proofs.Ytbeeiecbbmiojaa

def joinW : List (List Char) → List Char
  | [] => []
  | [w] => w
  | w :: v :: t => w ++ Char.ofNat 32 :: joinW (v :: t)
theorem signs_one : ∀ (w : List Char), (w.all fun c => c != Char.ofNat 32) = true → wordsSigns w = [w]
  | [], _ => rfl
  | c :: w, h => by
    simp only [List.all_cons, Bool.and_eq_true, bne_iff_ne] at h
    have ih := signs_one w h.2
    unfold wordsSigns
    split
    · rename_i e; cases e
    · rename_i e; injection e with e _; exact absurd e h.1
    · rename_i c' r' e
      injection e with e1 e2
      subst e1 e2
      rw [ih]
theorem signs_cons : ∀ (w r : List Char), (w.all fun c => c != Char.ofNat 32) = true → wordsSigns (w ++ Char.ofNat 32 :: r) = w :: wordsSigns r
  | [], r, _ => rfl
  | c :: w, r, h => by
    simp only [List.all_cons, Bool.and_eq_true, bne_iff_ne] at h
    have ih := signs_cons w r h.2
    rw [List.cons_append]
    rw [wordsSigns.eq_3 _ _ (by intro e; exact absurd e h.1)]
    rw [ih]
theorem signs_join : ∀ (ws : List (List Char)), ws ≠ [] → (ws.all fun w => w.all fun c => c != Char.ofNat 32) = true → wordsSigns (joinW ws) = ws
  | [], h, _ => absurd rfl h
  | [w], _, h => signs_one w (by simpa using h)
  | w :: v :: t, _, h => by
    rw [List.all_cons, Bool.and_eq_true] at h
    show wordsSigns (w ++ Char.ofNat 32 :: joinW (v :: t)) = _
    rw [signs_cons w _ h.1, signs_join (v :: t) (by simp) h.2]

theorem head_words : wordsSigns Try.prog.initOrder.toList = (([[104, 97, 114, 110, 101, 115, 115], [102, 101, 99, 51, 51, 55, 99, 56, 99, 55, 100, 56, 49, 56, 101, 54, 54, 100, 100, 56, 57, 100, 51, 101, 101, 97, 49, 49, 97, 54, 53, 54, 51, 50, 54, 54, 51, 56, 52, 53, 49, 54, 98, 100, 99, 102, 54, 49, 54, 48, 102, 55, 55, 51, 52, 54, 56, 97, 56, 98, 53, 56, 51, 54], [99, 117, 116], [97, 116], [103, 108, 97, 99, 105, 115, 47, 103, 108, 97, 99, 105, 115, 108, 97, 119, 49, 57, 46, 84, 97, 98, 108, 101, 75, 105, 100, 115], [103, 108, 97, 99, 105, 115, 47, 103, 108, 97, 99, 105, 115, 108, 97, 119, 49, 57, 46, 84, 97, 98, 108, 101, 84, 104, 114, 101, 97, 100, 115], [103, 108, 97, 99, 105, 115, 47, 103, 108, 97, 99, 105, 115, 108, 97, 119, 49, 53, 46, 77, 97, 112, 115, 82, 105, 103, 104, 116], [103, 108, 97, 99, 105, 115, 47, 103, 108, 97, 99, 105, 115, 108, 97, 119, 49, 53, 46, 77, 97, 112, 115, 79, 114, 100, 101, 114], [103, 108, 97, 99, 105, 115, 47, 103, 108, 97, 99, 105, 115, 108, 97, 119, 49, 53, 46, 77, 97, 112, 115, 82, 117, 110, 115], [103, 108, 97, 99, 105, 115, 47, 103, 108, 97, 99, 105, 115, 108, 97, 119, 49, 53, 46, 77, 97, 112, 115, 66, 97, 99, 107], [103, 108, 97, 99, 105, 115, 47, 103, 108, 97, 99, 105, 115, 108, 97, 119, 49, 53, 46, 77, 97, 112, 115, 83, 101, 103, 115], [103, 108, 97, 99, 105, 115, 47, 103, 108, 97, 99, 105, 115, 108, 97, 119, 49, 57, 46, 84, 97, 98, 108, 101, 76, 111, 111, 107, 115], [103, 108, 97, 99, 105, 115, 47, 103, 108, 97, 99, 105, 115, 108, 97, 119, 49, 57, 46, 84, 97, 98, 108, 101, 82, 117, 110, 115], [103, 108, 97, 99, 105, 115, 47, 103, 108, 97, 99, 105, 115, 108, 97, 119, 49, 57, 46, 84, 97, 98, 108, 101, 65, 108, 108]] : List (List Nat)).map fun w => w.map Char.ofNat) := by
  have h : Try.prog.initOrder = String.ofList (joinW (([[104, 97, 114, 110, 101, 115, 115], [102, 101, 99, 51, 51, 55, 99, 56, 99, 55, 100, 56, 49, 56, 101, 54, 54, 100, 100, 56, 57, 100, 51, 101, 101, 97, 49, 49, 97, 54, 53, 54, 51, 50, 54, 54, 51, 56, 52, 53, 49, 54, 98, 100, 99, 102, 54, 49, 54, 48, 102, 55, 55, 51, 52, 54, 56, 97, 56, 98, 53, 56, 51, 54], [99, 117, 116], [97, 116], [103, 108, 97, 99, 105, 115, 47, 103, 108, 97, 99, 105, 115, 108, 97, 119, 49, 57, 46, 84, 97, 98, 108, 101, 75, 105, 100, 115], [103, 108, 97, 99, 105, 115, 47, 103, 108, 97, 99, 105, 115, 108, 97, 119, 49, 57, 46, 84, 97, 98, 108, 101, 84, 104, 114, 101, 97, 100, 115], [103, 108, 97, 99, 105, 115, 47, 103, 108, 97, 99, 105, 115, 108, 97, 119, 49, 53, 46, 77, 97, 112, 115, 82, 105, 103, 104, 116], [103, 108, 97, 99, 105, 115, 47, 103, 108, 97, 99, 105, 115, 108, 97, 119, 49, 53, 46, 77, 97, 112, 115, 79, 114, 100, 101, 114], [103, 108, 97, 99, 105, 115, 47, 103, 108, 97, 99, 105, 115, 108, 97, 119, 49, 53, 46, 77, 97, 112, 115, 82, 117, 110, 115], [103, 108, 97, 99, 105, 115, 47, 103, 108, 97, 99, 105, 115, 108, 97, 119, 49, 53, 46, 77, 97, 112, 115, 66, 97, 99, 107], [103, 108, 97, 99, 105, 115, 47, 103, 108, 97, 99, 105, 115, 108, 97, 119, 49, 53, 46, 77, 97, 112, 115, 83, 101, 103, 115], [103, 108, 97, 99, 105, 115, 47, 103, 108, 97, 99, 105, 115, 108, 97, 119, 49, 57, 46, 84, 97, 98, 108, 101, 76, 111, 111, 107, 115], [103, 108, 97, 99, 105, 115, 47, 103, 108, 97, 99, 105, 115, 108, 97, 119, 49, 57, 46, 84, 97, 98, 108, 101, 82, 117, 110, 115], [103, 108, 97, 99, 105, 115, 47, 103, 108, 97, 99, 105, 115, 108, 97, 119, 49, 57, 46, 84, 97, 98, 108, 101, 65, 108, 108]] : List (List Nat)).map fun w => w.map Char.ofNat)) := by kernel_rfl
  rw [h, String.toList_ofList]
  exact signs_join _ (by simp) (by kernel_rfl)

def cutW : List Char := ([99, 117, 116] : List Nat).map Char.ofNat
def restW : List (List Char) := ([[97, 116], [103, 108, 97, 99, 105, 115, 47, 103, 108, 97, 99, 105, 115, 108, 97, 119, 49, 57, 46, 84, 97, 98, 108, 101, 75, 105, 100, 115], [103, 108, 97, 99, 105, 115, 47, 103, 108, 97, 99, 105, 115, 108, 97, 119, 49, 57, 46, 84, 97, 98, 108, 101, 84, 104, 114, 101, 97, 100, 115], [103, 108, 97, 99, 105, 115, 47, 103, 108, 97, 99, 105, 115, 108, 97, 119, 49, 53, 46, 77, 97, 112, 115, 82, 105, 103, 104, 116], [103, 108, 97, 99, 105, 115, 47, 103, 108, 97, 99, 105, 115, 108, 97, 119, 49, 53, 46, 77, 97, 112, 115, 79, 114, 100, 101, 114], [103, 108, 97, 99, 105, 115, 47, 103, 108, 97, 99, 105, 115, 108, 97, 119, 49, 53, 46, 77, 97, 112, 115, 82, 117, 110, 115], [103, 108, 97, 99, 105, 115, 47, 103, 108, 97, 99, 105, 115, 108, 97, 119, 49, 53, 46, 77, 97, 112, 115, 66, 97, 99, 107], [103, 108, 97, 99, 105, 115, 47, 103, 108, 97, 99, 105, 115, 108, 97, 119, 49, 53, 46, 77, 97, 112, 115, 83, 101, 103, 115], [103, 108, 97, 99, 105, 115, 47, 103, 108, 97, 99, 105, 115, 108, 97, 119, 49, 57, 46, 84, 97, 98, 108, 101, 76, 111, 111, 107, 115], [103, 108, 97, 99, 105, 115, 47, 103, 108, 97, 99, 105, 115, 108, 97, 119, 49, 57, 46, 84, 97, 98, 108, 101, 82, 117, 110, 115], [103, 108, 97, 99, 105, 115, 47, 103, 108, 97, 99, 105, 115, 108, 97, 119, 49, 57, 46, 84, 97, 98, 108, 101, 65, 108, 108]] : List (List Nat)).map fun w => w.map Char.ofNat
set_option maxRecDepth 100000 in
theorem head_behind : behindMainWord (wordsSigns Try.prog.initOrder.toList) = cutW :: restW := by
  rw [head_words]
  kernel_rfl
set_option maxRecDepth 100000 in
theorem head_strip : stripLifts liftWords (cutW :: restW) = ([], cutW :: restW) := by kernel_rfl
set_option maxRecDepth 100000 in
theorem headLifts_ok : Try.prog.headLifts = [] := by
  unfold Program.headLifts
  rw [head_behind, head_strip]
  have h : ((([], cutW :: restW) : List String × List (List Char)).2.head? == some "cut".toList) = true := by kernel_rfl
  simp only [h, if_true]
set_option maxRecDepth 100000 in
theorem liftsFinal_ok : Try.prog.liftsFinal = false := by
  unfold Program.liftsFinal
  rw [headLifts_ok, head_behind]
  have h : ((cutW :: restW).head? == some "carried".toList) = false := by kernel_rfl
  simp only [h, Bool.false_and, Bool.false_or]
  rfl
theorem cut_gc : (cutW == "gc".toList) = false := by kernel_rfl
theorem cut_spec : (cutW == "spec".toList) = false := by kernel_rfl
theorem cut_carried : (cutW == "carried".toList) = false := by kernel_rfl
theorem cut_cut : (cutW == "cut".toList) = true := by kernel_rfl
set_option maxRecDepth 100000 in
theorem laysLater_ok : Try.prog.laysLater = false := by kernel_rfl
set_option maxRecDepth 100000 in
theorem bearsReflect_ok : Try.prog.bearsReflect = false := by kernel_rfl
set_option maxRecDepth 100000 in
theorem doorRows_ok : Try.prog.doorRows = [] := by kernel_rfl
theorem make_of {P : Program} {c : List Char} {rest : List (List Char)} (hb : behindMainWord (wordsSigns P.initOrder.toList) = c :: rest) (h1 : (c == "gc".toList) = false) (h2 : (c == "spec".toList) = false) (h3 : (c == "cut".toList) = true) : P.make = some .cut := by
  unfold Program.make
  rw [hb]
  generalize "gc".toList = x1 at *
  generalize "spec".toList = x2 at *
  generalize "cut".toList = x3 at *
  simp only [h1, h2, h3, Bool.or_false, Bool.true_or, if_true]
  simp
theorem mayEnter_of {P : Program} {c : List Char} {rest : List (List Char)} (hb : behindMainWord (wordsSigns P.initOrder.toList) = c :: rest) (hs : stripLifts liftWords (c :: rest) = ([], c :: rest)) (h3 : (c == "cut".toList) = true)
    (hl : P.laysLater = false) (hr : P.bearsReflect = false) (hd : P.doorFits [] = true) : P.mayEnter = true := by
  unfold Program.mayEnter
  rw [hb]
  have h4 : ((c :: rest).head? == some "cut".toList) = true := by simpa using h3
  simp only [hs]
  rw [h4, hl, hr, hd]
  simp
theorem mayEnter_ok : Try.prog.mayEnter = true := mayEnter_of head_behind head_strip cut_cut laysLater_ok bearsReflect_ok (by
  unfold Program.doorFits
  rw [doorRows_ok]
  rfl)
theorem make_ok : Try.prog.make = some .cut := make_of head_behind cut_gc cut_spec cut_cut
end Go.Proofs.Ytbeeiecbbmiojaa
