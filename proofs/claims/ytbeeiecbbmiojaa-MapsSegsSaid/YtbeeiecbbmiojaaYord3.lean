/- More for MapsOrder: a map's variable whose page is set; that all that was added is right. -/
import Derived.Test.YtbeeiecbbmiojaaYord2
import Derived.Test.YtbeeiecbbmiojaaMapsRight
namespace Go.Proofs.Ytbeeiecbbmiojaa.Y
open Go.RowKit

theorem fok_blk {w : World} {g : Nat} {T : TypeId} {cs : Array Value} (h : Blk w g T cs) : FOK False (Also noF [g]) w := ⟨fun k hk => by
  rcases hk with hk | hk
  · exact hk.elim
  · rw [List.mem_singleton.1 hk]; exact h.lt, fun u => u.elim⟩
theorem blk_pa {w : World} {g : Nat} {m : M} (h : Blk w g 69 (mapE m).toArray) (x : Int) : Blk (w.setCells g 0 [.int .i64 x]) g 69 (mapE { m with pa := x }).toArray := by
  have := Blk.setCells [.int .i64 x] 0 h (by simp [mapE])
  simpa [over, mapE] using this
theorem fok_set {w : World} {g : Nat} {m : M} (h : Blk w g 69 (mapE m).toArray) (x : Int) : FOK False (Also noF [g]) (w.setCells g 0 [.int .i64 x]) := fok_blk (blk_pa h x)
theorem right_mvs {l : List M} : ∀ {n : Nat}, okA l n → rightFrom 0 (mvs l 0 n) = true
  | 0, _ => rfl
  | n + 1, h => by
    have ih := right_mvs (l := l) (n := n) fun j hj => h j (by omega)
    have hf : fitsB (mvM (l.getD n noM) n) = true := h n (by omega)
    rw [mvs_snoc l (Nat.zero_le n), right_snoc, ih, hf, Bool.true_and, Bool.true_and, decide_eq_true_eq]
    cases n with
    | zero =>
      unfold fitsB at hf
      rw [decide_eq_true_eq] at hf
      exact hf.2.2.1
    | succ k =>
      rw [mvs_snoc l (Nat.zero_le k), last_snoc]
      exact (mv_lt (l := l) (j := k) (k := k + 1) (by omega) (h k (by omega))).2
end Go.Proofs.Ytbeeiecbbmiojaa.Y
