/-
  No cell of these rows narrows 'for every input' (looked for: loops, veiled, ifaces, maps, wideKeys, modest, calm, conditions, laid).
  DERIVED. THE GIVEN ROWS OF THIS SEAT. 10 by the template 'for every input the law returns true; each argument reads behind the call as it read before'; 0 by the template 'total and deterministic' (their statements: YtbeeiecbbmiojaaTotals.lean).
  GIVEN WITH THE SEED: the statements are not yours to turn. If you find one false, say at which input.
  Laid BY PROGRAM, IN A SANDBOX (cutbox-rows.mjs): the forced cells as the released guide's own fill.sh prints them over the translation e1787aad4154d5f0… (all of the seat's roots in one cut). By AI agents, Wed Nov 11 2026. No macro, syntax, notation, axiom, sorry.
-/
import Derived.Test.YtbeeiecbbmiojaaChecked
import GoSem.Claim
import GoSem.ClaimJoined
import GoSem.ClaimMapViews
import Derived.JoinedTies
import Derived.KernelRfl
namespace Go.Proofs.Ytbeeiecbbmiojaa
/- THE CELL 'sum', in the pinned program and in every row, IS THE sha256 OF THE DUMP (.gsa) THAT YtbeeiecbbmiojaaProg.lean LOADS. Nothing in Lean hashes anything: it is a label: what it is worth is what the hold of that sum in a sandbox is worth. -/
noncomputable def Try.pinned : Pinned := { name := "ytbeeiecbbmiojaa", sum := "e1787aad4154d5f039453a4019bee684387ed37482ad6db9bd46bf3803075bde", checked := Try.checked }
namespace Rows
def none {H : Type} : Left H := { results := [], args := [] }

/-- 'glacislaw19.TableKids': WHATEVER THE INPUT: true; the input reads as it did. -/
def tableKidsSpec : ChangeSpec := { name := "tableKids", fn := fun _ => fun
  | [d] => { results := [.lit (.bool true)], args := [d] }
  | _ => none }
def tableKidsRow : OpenClaim := { program := "ytbeeiecbbmiojaa", sum := "e1787aad4154d5f039453a4019bee684387ed37482ad6db9bd46bf3803075bde", func := "glacis/glacislaw19.TableKids", spec := "tableKids", unfollowed := true, recurses := true, apart := false }
def TableKidsSaid : Prop := tableKidsRow.holds Try.pinned (OpenSpec.ofChange tableKidsSpec)

/-- ITS FALSE NEIGHBOUR: 'it returns false'. Refute it at one input. -/
def tableKidsWrong : ChangeSpec := { name := "tableKids", fn := fun _ => fun
  | [d] => { results := [.lit (.bool false)], args := [d] }
  | _ => none }
def TableKidsWrongFalsely : Prop := tableKidsRow.holds Try.pinned (OpenSpec.ofChange tableKidsWrong)

/-- 'glacislaw19.TableThreads': WHATEVER THE INPUT: true; the input reads as it did. -/
def tableThreadsSpec : ChangeSpec := { name := "tableThreads", fn := fun _ => fun
  | [d] => { results := [.lit (.bool true)], args := [d] }
  | _ => none }
def tableThreadsRow : OpenClaim := { program := "ytbeeiecbbmiojaa", sum := "e1787aad4154d5f039453a4019bee684387ed37482ad6db9bd46bf3803075bde", func := "glacis/glacislaw19.TableThreads", spec := "tableThreads", unfollowed := true, recurses := true, apart := false }
def TableThreadsSaid : Prop := tableThreadsRow.holds Try.pinned (OpenSpec.ofChange tableThreadsSpec)

/-- ITS FALSE NEIGHBOUR: 'it returns false'. Refute it at one input. -/
def tableThreadsWrong : ChangeSpec := { name := "tableThreads", fn := fun _ => fun
  | [d] => { results := [.lit (.bool false)], args := [d] }
  | _ => none }
def TableThreadsWrongFalsely : Prop := tableThreadsRow.holds Try.pinned (OpenSpec.ofChange tableThreadsWrong)

/-- 'glacislaw15.MapsRight': WHATEVER THE INPUT: true; the input reads as it did. -/
def mapsRightSpec : ChangeSpec := { name := "mapsRight", fn := fun _ => fun
  | [d] => { results := [.lit (.bool true)], args := [d] }
  | _ => none }
def mapsRightRow : OpenClaim := { program := "ytbeeiecbbmiojaa", sum := "e1787aad4154d5f039453a4019bee684387ed37482ad6db9bd46bf3803075bde", func := "glacis/glacislaw15.MapsRight", spec := "mapsRight", inPlace := ["slices.overlaps[glacis/api.Map]"], apart := false }
def MapsRightSaid : Prop := mapsRightRow.holds Try.pinned (OpenSpec.ofChange mapsRightSpec)

/-- ITS FALSE NEIGHBOUR: 'it returns false'. Refute it at one input. -/
def mapsRightWrong : ChangeSpec := { name := "mapsRight", fn := fun _ => fun
  | [d] => { results := [.lit (.bool false)], args := [d] }
  | _ => none }
def MapsRightWrongFalsely : Prop := mapsRightRow.holds Try.pinned (OpenSpec.ofChange mapsRightWrong)

/-- 'glacislaw15.MapsOrder': WHATEVER THE INPUT: true; the input reads as it did. -/
def mapsOrderSpec : ChangeSpec := { name := "mapsOrder", fn := fun _ => fun
  | [d1, d2] => { results := [.lit (.bool true)], args := [d1, d2] }
  | _ => none }
def mapsOrderRow : OpenClaim := { program := "ytbeeiecbbmiojaa", sum := "e1787aad4154d5f039453a4019bee684387ed37482ad6db9bd46bf3803075bde", func := "glacis/glacislaw15.MapsOrder", spec := "mapsOrder", inPlace := ["slices.overlaps[glacis/api.Map]"], apart := false }
def MapsOrderSaid : Prop := mapsOrderRow.holds Try.pinned (OpenSpec.ofChange mapsOrderSpec)

/-- ITS FALSE NEIGHBOUR: 'it returns false'. Refute it at one input. -/
def mapsOrderWrong : ChangeSpec := { name := "mapsOrder", fn := fun _ => fun
  | [d1, d2] => { results := [.lit (.bool false)], args := [d1, d2] }
  | _ => none }
def MapsOrderWrongFalsely : Prop := mapsOrderRow.holds Try.pinned (OpenSpec.ofChange mapsOrderWrong)

/-- 'glacislaw15.MapsRuns': WHATEVER THE INPUT: true; the input reads as it did. -/
def mapsRunsSpec : ChangeSpec := { name := "mapsRuns", fn := fun _ => fun
  | [d1, d2] => { results := [.lit (.bool true)], args := [d1, d2] }
  | _ => none }
def mapsRunsRow : OpenClaim := { program := "ytbeeiecbbmiojaa", sum := "e1787aad4154d5f039453a4019bee684387ed37482ad6db9bd46bf3803075bde", func := "glacis/glacislaw15.MapsRuns", spec := "mapsRuns", inPlace := ["slices.overlaps[glacis/api.Map]"], unfollowed := true, recurses := true, apart := false }
def MapsRunsSaid : Prop := mapsRunsRow.holds Try.pinned (OpenSpec.ofChange mapsRunsSpec)

/-- ITS FALSE NEIGHBOUR: 'it returns false'. Refute it at one input. -/
def mapsRunsWrong : ChangeSpec := { name := "mapsRuns", fn := fun _ => fun
  | [d1, d2] => { results := [.lit (.bool false)], args := [d1, d2] }
  | _ => none }
def MapsRunsWrongFalsely : Prop := mapsRunsRow.holds Try.pinned (OpenSpec.ofChange mapsRunsWrong)

/-- 'glacislaw15.MapsBack': WHATEVER THE INPUT: true; the input reads as it did. -/
def mapsBackSpec : ChangeSpec := { name := "mapsBack", fn := fun _ => fun
  | [d1, d2] => { results := [.lit (.bool true)], args := [d1, d2] }
  | _ => none }
def mapsBackRow : OpenClaim := { program := "ytbeeiecbbmiojaa", sum := "e1787aad4154d5f039453a4019bee684387ed37482ad6db9bd46bf3803075bde", func := "glacis/glacislaw15.MapsBack", spec := "mapsBack", inPlace := ["slices.overlaps[glacis/api.Map]"], unfollowed := true, recurses := true, apart := false }
def MapsBackSaid : Prop := mapsBackRow.holds Try.pinned (OpenSpec.ofChange mapsBackSpec)

/-- ITS FALSE NEIGHBOUR: 'it returns false'. Refute it at one input. -/
def mapsBackWrong : ChangeSpec := { name := "mapsBack", fn := fun _ => fun
  | [d1, d2] => { results := [.lit (.bool false)], args := [d1, d2] }
  | _ => none }
def MapsBackWrongFalsely : Prop := mapsBackRow.holds Try.pinned (OpenSpec.ofChange mapsBackWrong)

/-- 'glacislaw15.MapsSegs': WHATEVER THE INPUT: true; the input reads as it did. -/
def mapsSegsSpec : ChangeSpec := { name := "mapsSegs", fn := fun _ => fun
  | [d1, d2] => { results := [.lit (.bool true)], args := [d1, d2] }
  | _ => none }
def mapsSegsRow : OpenClaim := { program := "ytbeeiecbbmiojaa", sum := "e1787aad4154d5f039453a4019bee684387ed37482ad6db9bd46bf3803075bde", func := "glacis/glacislaw15.MapsSegs", spec := "mapsSegs", inPlace := ["slices.overlaps[glacis/api.Map]", "slices.overlaps[uint64]"], unfollowed := true, recurses := true, apart := false }
def MapsSegsSaid : Prop := mapsSegsRow.holds Try.pinned (OpenSpec.ofChange mapsSegsSpec)

/-- ITS FALSE NEIGHBOUR: 'it returns false'. Refute it at one input. -/
def mapsSegsWrong : ChangeSpec := { name := "mapsSegs", fn := fun _ => fun
  | [d1, d2] => { results := [.lit (.bool false)], args := [d1, d2] }
  | _ => none }
def MapsSegsWrongFalsely : Prop := mapsSegsRow.holds Try.pinned (OpenSpec.ofChange mapsSegsWrong)

/-- 'glacislaw19.TableLooks': WHATEVER THE INPUT: true; the input reads as it did. -/
def tableLooksSpec : ChangeSpec := { name := "tableLooks", fn := fun _ => fun
  | [d1, d2] => { results := [.lit (.bool true)], args := [d1, d2] }
  | _ => none }
def tableLooksRow : OpenClaim := { program := "ytbeeiecbbmiojaa", sum := "e1787aad4154d5f039453a4019bee684387ed37482ad6db9bd46bf3803075bde", func := "glacis/glacislaw19.TableLooks", spec := "tableLooks", inPlace := ["slices.overlaps[glacis/api.Pair]"], unfollowed := true, recurses := true, apart := false }
def TableLooksSaid : Prop := tableLooksRow.holds Try.pinned (OpenSpec.ofChange tableLooksSpec)

/-- ITS FALSE NEIGHBOUR: 'it returns false'. Refute it at one input. -/
def tableLooksWrong : ChangeSpec := { name := "tableLooks", fn := fun _ => fun
  | [d1, d2] => { results := [.lit (.bool false)], args := [d1, d2] }
  | _ => none }
def TableLooksWrongFalsely : Prop := tableLooksRow.holds Try.pinned (OpenSpec.ofChange tableLooksWrong)

/-- 'glacislaw19.TableRuns': WHATEVER THE INPUT: true; the input reads as it did. -/
def tableRunsSpec : ChangeSpec := { name := "tableRuns", fn := fun _ => fun
  | [d] => { results := [.lit (.bool true)], args := [d] }
  | _ => none }
def tableRunsRow : OpenClaim := { program := "ytbeeiecbbmiojaa", sum := "e1787aad4154d5f039453a4019bee684387ed37482ad6db9bd46bf3803075bde", func := "glacis/glacislaw19.TableRuns", spec := "tableRuns", unfollowed := true, recurses := true, apart := false }
def TableRunsSaid : Prop := tableRunsRow.holds Try.pinned (OpenSpec.ofChange tableRunsSpec)

/-- ITS FALSE NEIGHBOUR: 'it returns false'. Refute it at one input. -/
def tableRunsWrong : ChangeSpec := { name := "tableRuns", fn := fun _ => fun
  | [d] => { results := [.lit (.bool false)], args := [d] }
  | _ => none }
def TableRunsWrongFalsely : Prop := tableRunsRow.holds Try.pinned (OpenSpec.ofChange tableRunsWrong)

/-- 'glacislaw19.TableAll': WHATEVER THE INPUT: true; the input reads as it did. -/
def tableAllSpec : ChangeSpec := { name := "tableAll", fn := fun _ => fun
  | [d1, d2] => { results := [.lit (.bool true)], args := [d1, d2] }
  | _ => none }
def tableAllRow : OpenClaim := { program := "ytbeeiecbbmiojaa", sum := "e1787aad4154d5f039453a4019bee684387ed37482ad6db9bd46bf3803075bde", func := "glacis/glacislaw19.TableAll", spec := "tableAll", unfollowed := true, recurses := true, apart := false }
def TableAllSaid : Prop := tableAllRow.holds Try.pinned (OpenSpec.ofChange tableAllSpec)

/-- ITS FALSE NEIGHBOUR: 'it returns false'. Refute it at one input. -/
def tableAllWrong : ChangeSpec := { name := "tableAll", fn := fun _ => fun
  | [d1, d2] => { results := [.lit (.bool false)], args := [d1, d2] }
  | _ => none }
def TableAllWrongFalsely : Prop := tableAllRow.holds Try.pinned (OpenSpec.ofChange tableAllWrong)

/- THE SECOND FORM. 'bulk': how many values and letters a reading holds, each counted each time it is reached (what is shared counts as often as it is met; a slice's spare places count too). A statement '..UptoSaid' is the law's where the arguments, and the package variables that the reading takes, are together of bulk at most 1048576: NARROWER than '..Said'. Prove '..Said' where nothing that the law and all that it calls make is longer than what came in: it says more and counts as full. Else prove '..UptoSaid'. A law counts once. -/
mutual
def uptoBulk {H : Type} : DataW H → Nat
  | .lit (.string bytes) => bytes.length + 1
  | .lit _ => 1
  | .nil => 1
  | .ptr d => uptoBulk d + 1
  | .slice elems spare => uptoBulkAll elems + uptoBulkAll spare + 1
  | .agg parts => uptoBulkAll parts + 1
  | .iface _ d => uptoBulk d + 1
  | .map entries => uptoBulkEntries entries + 1
  | .held _ => 1
def uptoBulkAll {H : Type} : List (DataW H) → Nat
  | [] => 0
  | d :: r => uptoBulk d + uptoBulkAll r
def uptoBulkEntries {H : Type} : List (Lit × DataW H) → Nat
  | [] => 0
  | x :: r => uptoBulkEntry x + uptoBulkEntries r
def uptoBulkEntry {H : Type} : Lit × DataW H → Nat
  | (.string bytes, d) => bytes.length + uptoBulk d + 1
  | (_, d) => uptoBulk d + 1
 end
def uptoSmall : (H : Type) → List (DataW H) → Bool := fun _ ds => decide (uptoBulkAll ds ≤ 1048576)
def OpenSpec.upto (s : _root_.Go.ChangeSpec) : _root_.Go.OpenSpec := { _root_.Go.OpenSpec.ofChange s with cond := some uptoSmall }

/-- 'glacislaw19.TableKids', WHERE WHAT IT READS IS OF BULK AT MOST 1048576: true; the input reads as it did. -/
def tableKidsUptoRow : OpenClaim := { program := "ytbeeiecbbmiojaa", sum := "e1787aad4154d5f039453a4019bee684387ed37482ad6db9bd46bf3803075bde", func := "glacis/glacislaw19.TableKids", spec := "tableKids", unfollowed := true, recurses := true, apart := false, narrowed := true }
def TableKidsUptoSaid : Prop := tableKidsUptoRow.holds Try.pinned (OpenSpec.upto tableKidsSpec)

/-- 'glacislaw19.TableThreads', WHERE WHAT IT READS IS OF BULK AT MOST 1048576: true; the input reads as it did. -/
def tableThreadsUptoRow : OpenClaim := { program := "ytbeeiecbbmiojaa", sum := "e1787aad4154d5f039453a4019bee684387ed37482ad6db9bd46bf3803075bde", func := "glacis/glacislaw19.TableThreads", spec := "tableThreads", unfollowed := true, recurses := true, apart := false, narrowed := true }
def TableThreadsUptoSaid : Prop := tableThreadsUptoRow.holds Try.pinned (OpenSpec.upto tableThreadsSpec)

/-- 'glacislaw15.MapsRight', WHERE WHAT IT READS IS OF BULK AT MOST 1048576: true; the input reads as it did. -/
def mapsRightUptoRow : OpenClaim := { program := "ytbeeiecbbmiojaa", sum := "e1787aad4154d5f039453a4019bee684387ed37482ad6db9bd46bf3803075bde", func := "glacis/glacislaw15.MapsRight", spec := "mapsRight", inPlace := ["slices.overlaps[glacis/api.Map]"], apart := false, narrowed := true }
def MapsRightUptoSaid : Prop := mapsRightUptoRow.holds Try.pinned (OpenSpec.upto mapsRightSpec)

/-- 'glacislaw15.MapsOrder', WHERE WHAT IT READS IS OF BULK AT MOST 1048576: true; the input reads as it did. -/
def mapsOrderUptoRow : OpenClaim := { program := "ytbeeiecbbmiojaa", sum := "e1787aad4154d5f039453a4019bee684387ed37482ad6db9bd46bf3803075bde", func := "glacis/glacislaw15.MapsOrder", spec := "mapsOrder", inPlace := ["slices.overlaps[glacis/api.Map]"], apart := false, narrowed := true }
def MapsOrderUptoSaid : Prop := mapsOrderUptoRow.holds Try.pinned (OpenSpec.upto mapsOrderSpec)

/-- 'glacislaw15.MapsRuns', WHERE WHAT IT READS IS OF BULK AT MOST 1048576: true; the input reads as it did. -/
def mapsRunsUptoRow : OpenClaim := { program := "ytbeeiecbbmiojaa", sum := "e1787aad4154d5f039453a4019bee684387ed37482ad6db9bd46bf3803075bde", func := "glacis/glacislaw15.MapsRuns", spec := "mapsRuns", inPlace := ["slices.overlaps[glacis/api.Map]"], unfollowed := true, recurses := true, apart := false, narrowed := true }
def MapsRunsUptoSaid : Prop := mapsRunsUptoRow.holds Try.pinned (OpenSpec.upto mapsRunsSpec)

/-- 'glacislaw15.MapsBack', WHERE WHAT IT READS IS OF BULK AT MOST 1048576: true; the input reads as it did. -/
def mapsBackUptoRow : OpenClaim := { program := "ytbeeiecbbmiojaa", sum := "e1787aad4154d5f039453a4019bee684387ed37482ad6db9bd46bf3803075bde", func := "glacis/glacislaw15.MapsBack", spec := "mapsBack", inPlace := ["slices.overlaps[glacis/api.Map]"], unfollowed := true, recurses := true, apart := false, narrowed := true }
def MapsBackUptoSaid : Prop := mapsBackUptoRow.holds Try.pinned (OpenSpec.upto mapsBackSpec)

/-- 'glacislaw15.MapsSegs', WHERE WHAT IT READS IS OF BULK AT MOST 1048576: true; the input reads as it did. -/
def mapsSegsUptoRow : OpenClaim := { program := "ytbeeiecbbmiojaa", sum := "e1787aad4154d5f039453a4019bee684387ed37482ad6db9bd46bf3803075bde", func := "glacis/glacislaw15.MapsSegs", spec := "mapsSegs", inPlace := ["slices.overlaps[glacis/api.Map]", "slices.overlaps[uint64]"], unfollowed := true, recurses := true, apart := false, narrowed := true }
def MapsSegsUptoSaid : Prop := mapsSegsUptoRow.holds Try.pinned (OpenSpec.upto mapsSegsSpec)

/-- 'glacislaw19.TableLooks', WHERE WHAT IT READS IS OF BULK AT MOST 1048576: true; the input reads as it did. -/
def tableLooksUptoRow : OpenClaim := { program := "ytbeeiecbbmiojaa", sum := "e1787aad4154d5f039453a4019bee684387ed37482ad6db9bd46bf3803075bde", func := "glacis/glacislaw19.TableLooks", spec := "tableLooks", inPlace := ["slices.overlaps[glacis/api.Pair]"], unfollowed := true, recurses := true, apart := false, narrowed := true }
def TableLooksUptoSaid : Prop := tableLooksUptoRow.holds Try.pinned (OpenSpec.upto tableLooksSpec)

/-- 'glacislaw19.TableRuns', WHERE WHAT IT READS IS OF BULK AT MOST 1048576: true; the input reads as it did. -/
def tableRunsUptoRow : OpenClaim := { program := "ytbeeiecbbmiojaa", sum := "e1787aad4154d5f039453a4019bee684387ed37482ad6db9bd46bf3803075bde", func := "glacis/glacislaw19.TableRuns", spec := "tableRuns", unfollowed := true, recurses := true, apart := false, narrowed := true }
def TableRunsUptoSaid : Prop := tableRunsUptoRow.holds Try.pinned (OpenSpec.upto tableRunsSpec)

/-- 'glacislaw19.TableAll', WHERE WHAT IT READS IS OF BULK AT MOST 1048576: true; the input reads as it did. -/
def tableAllUptoRow : OpenClaim := { program := "ytbeeiecbbmiojaa", sum := "e1787aad4154d5f039453a4019bee684387ed37482ad6db9bd46bf3803075bde", func := "glacis/glacislaw19.TableAll", spec := "tableAll", unfollowed := true, recurses := true, apart := false, narrowed := true }
def TableAllUptoSaid : Prop := tableAllUptoRow.holds Try.pinned (OpenSpec.upto tableAllSpec)

end Rows
end Go.Proofs.Ytbeeiecbbmiojaa
