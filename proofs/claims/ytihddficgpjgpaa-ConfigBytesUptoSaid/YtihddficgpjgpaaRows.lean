/-
  No cell of these rows narrows 'for every input' (looked for: loops, veiled, ifaces, maps, wideKeys, modest, calm, conditions, laid).
  DERIVED. THE GIVEN ROWS OF THIS SEAT. 25 by the template 'for every input the law returns true; each argument reads behind the call as it read before'; 0 by the template 'total and deterministic' (their statements: YtihddficgpjgpaaTotals.lean).
  GIVEN WITH THE SEED: the statements are not yours to turn. If you find one false, say at which input.
  Laid BY PROGRAM, IN A SANDBOX (cutbox-rows.mjs): the forced cells as the released guide's own fill.sh prints them over the translation 1e2787b075523cc4… (all of the seat's roots in one cut). By AI agents, Wed Nov 11 2026. No macro, syntax, notation, axiom, sorry.
-/
import Derived.Test.YtihddficgpjgpaaChecked
import GoSem.Claim
import GoSem.ClaimJoined
import GoSem.ClaimMapViews
import Derived.JoinedTies
import Derived.KernelRfl
namespace Go.Proofs.Ytihddficgpjgpaa
/- THE CELL 'sum', in the pinned program and in every row, IS THE sha256 OF THE DUMP (.gsa) THAT YtihddficgpjgpaaProg.lean LOADS. Nothing in Lean hashes anything: it is a label: what it is worth is what the hold of that sum in a sandbox is worth. -/
noncomputable def Try.pinned : Pinned := { name := "ytihddficgpjgpaa", sum := "1e2787b075523cc48f2c24d3a3cd379665a823a91f9087ec4edd47e608dc3c01", checked := Try.checked }
namespace Rows
def none {H : Type} : Left H := { results := [], args := [] }

/-- 'glacislaw03.PackPuts': WHATEVER THE INPUT: true; the input reads as it did. -/
def packPutsSpec : ChangeSpec := { name := "packPuts", fn := fun _ => fun
  | [d1, d2, d3] => { results := [.lit (.bool true)], args := [d1, d2, d3] }
  | _ => none }
def packPutsRow : OpenClaim := { program := "ytihddficgpjgpaa", sum := "1e2787b075523cc48f2c24d3a3cd379665a823a91f9087ec4edd47e608dc3c01", func := "glacis/glacislaw03.PackPuts", spec := "packPuts", apart := false }
def PackPutsSaid : Prop := packPutsRow.holds Try.pinned (OpenSpec.ofChange packPutsSpec)

/-- ITS FALSE NEIGHBOUR: 'it returns false'. Refute it at one input. -/
def packPutsWrong : ChangeSpec := { name := "packPuts", fn := fun _ => fun
  | [d1, d2, d3] => { results := [.lit (.bool false)], args := [d1, d2, d3] }
  | _ => none }
def PackPutsWrongFalsely : Prop := packPutsRow.holds Try.pinned (OpenSpec.ofChange packPutsWrong)

/-- 'glacislaw03.PackApart': WHATEVER THE INPUT: true; the input reads as it did. -/
def packApartSpec : ChangeSpec := { name := "packApart", fn := fun _ => fun
  | [d1, d2] => { results := [.lit (.bool true)], args := [d1, d2] }
  | _ => none }
def packApartRow : OpenClaim := { program := "ytihddficgpjgpaa", sum := "1e2787b075523cc48f2c24d3a3cd379665a823a91f9087ec4edd47e608dc3c01", func := "glacis/glacislaw03.PackApart", spec := "packApart", apart := false }
def PackApartSaid : Prop := packApartRow.holds Try.pinned (OpenSpec.ofChange packApartSpec)

/-- ITS FALSE NEIGHBOUR: 'it returns false'. Refute it at one input. -/
def packApartWrong : ChangeSpec := { name := "packApart", fn := fun _ => fun
  | [d1, d2] => { results := [.lit (.bool false)], args := [d1, d2] }
  | _ => none }
def PackApartWrongFalsely : Prop := packApartRow.holds Try.pinned (OpenSpec.ofChange packApartWrong)

/-- 'glacislaw03.PackJoins': WHATEVER THE INPUT: true; the input reads as it did. -/
def packJoinsSpec : ChangeSpec := { name := "packJoins", fn := fun _ => fun
  | [d1, d2, d3] => { results := [.lit (.bool true)], args := [d1, d2, d3] }
  | _ => none }
def packJoinsRow : OpenClaim := { program := "ytihddficgpjgpaa", sum := "1e2787b075523cc48f2c24d3a3cd379665a823a91f9087ec4edd47e608dc3c01", func := "glacis/glacislaw03.PackJoins", spec := "packJoins", apart := false }
def PackJoinsSaid : Prop := packJoinsRow.holds Try.pinned (OpenSpec.ofChange packJoinsSpec)

/-- ITS FALSE NEIGHBOUR: 'it returns false'. Refute it at one input. -/
def packJoinsWrong : ChangeSpec := { name := "packJoins", fn := fun _ => fun
  | [d1, d2, d3] => { results := [.lit (.bool false)], args := [d1, d2, d3] }
  | _ => none }
def PackJoinsWrongFalsely : Prop := packJoinsRow.holds Try.pinned (OpenSpec.ofChange packJoinsWrong)

/-- 'glacislaw03.PackBack': WHATEVER THE INPUT: true; the input reads as it did. -/
def packBackSpec : ChangeSpec := { name := "packBack", fn := fun _ => fun
  | [d] => { results := [.lit (.bool true)], args := [d] }
  | _ => none }
def packBackRow : OpenClaim := { program := "ytihddficgpjgpaa", sum := "1e2787b075523cc48f2c24d3a3cd379665a823a91f9087ec4edd47e608dc3c01", func := "glacis/glacislaw03.PackBack", spec := "packBack", apart := false }
def PackBackSaid : Prop := packBackRow.holds Try.pinned (OpenSpec.ofChange packBackSpec)

/-- ITS FALSE NEIGHBOUR: 'it returns false'. Refute it at one input. -/
def packBackWrong : ChangeSpec := { name := "packBack", fn := fun _ => fun
  | [d] => { results := [.lit (.bool false)], args := [d] }
  | _ => none }
def PackBackWrongFalsely : Prop := packBackRow.holds Try.pinned (OpenSpec.ofChange packBackWrong)

/-- 'glacislaw03.PackOnly': WHATEVER THE INPUT: true; the input reads as it did. -/
def packOnlySpec : ChangeSpec := { name := "packOnly", fn := fun _ => fun
  | [d1, d2] => { results := [.lit (.bool true)], args := [d1, d2] }
  | _ => none }
def packOnlyRow : OpenClaim := { program := "ytihddficgpjgpaa", sum := "1e2787b075523cc48f2c24d3a3cd379665a823a91f9087ec4edd47e608dc3c01", func := "glacis/glacislaw03.PackOnly", spec := "packOnly", apart := false }
def PackOnlySaid : Prop := packOnlyRow.holds Try.pinned (OpenSpec.ofChange packOnlySpec)

/-- ITS FALSE NEIGHBOUR: 'it returns false'. Refute it at one input. -/
def packOnlyWrong : ChangeSpec := { name := "packOnly", fn := fun _ => fun
  | [d1, d2] => { results := [.lit (.bool false)], args := [d1, d2] }
  | _ => none }
def PackOnlyWrongFalsely : Prop := packOnlyRow.holds Try.pinned (OpenSpec.ofChange packOnlyWrong)

/-- 'glacislaw20.ConfigRight': WHATEVER THE INPUT: true; the input reads as it did. -/
def configRightSpec : ChangeSpec := { name := "configRight", fn := fun _ => fun
  | [d] => { results := [.lit (.bool true)], args := [d] }
  | _ => none }
def configRightRow : OpenClaim := { program := "ytihddficgpjgpaa", sum := "1e2787b075523cc48f2c24d3a3cd379665a823a91f9087ec4edd47e608dc3c01", func := "glacis/glacislaw20.ConfigRight", spec := "configRight", unfollowed := true, recurses := true, apart := false }
def ConfigRightSaid : Prop := configRightRow.holds Try.pinned (OpenSpec.ofChange configRightSpec)

/-- ITS FALSE NEIGHBOUR: 'it returns false'. Refute it at one input. -/
def configRightWrong : ChangeSpec := { name := "configRight", fn := fun _ => fun
  | [d] => { results := [.lit (.bool false)], args := [d] }
  | _ => none }
def ConfigRightWrongFalsely : Prop := configRightRow.holds Try.pinned (OpenSpec.ofChange configRightWrong)

/-- 'glacislaw20.ConfigLimits': WHATEVER THE INPUT: true; the input reads as it did. -/
def configLimitsSpec : ChangeSpec := { name := "configLimits", fn := fun _ => fun
  | [d1, d2] => { results := [.lit (.bool true)], args := [d1, d2] }
  | _ => none }
def configLimitsRow : OpenClaim := { program := "ytihddficgpjgpaa", sum := "1e2787b075523cc48f2c24d3a3cd379665a823a91f9087ec4edd47e608dc3c01", func := "glacis/glacislaw20.ConfigLimits", spec := "configLimits", unfollowed := true, recurses := true, apart := false }
def ConfigLimitsSaid : Prop := configLimitsRow.holds Try.pinned (OpenSpec.ofChange configLimitsSpec)

/-- ITS FALSE NEIGHBOUR: 'it returns false'. Refute it at one input. -/
def configLimitsWrong : ChangeSpec := { name := "configLimits", fn := fun _ => fun
  | [d1, d2] => { results := [.lit (.bool false)], args := [d1, d2] }
  | _ => none }
def ConfigLimitsWrongFalsely : Prop := configLimitsRow.holds Try.pinned (OpenSpec.ofChange configLimitsWrong)

/-- 'glacislaw02.LabelRight': WHATEVER THE INPUT: true; the input reads as it did. -/
def labelRightSpec : ChangeSpec := { name := "labelRight", fn := fun _ => fun
  | [d] => { results := [.lit (.bool true)], args := [d] }
  | _ => none }
def labelRightRow : OpenClaim := { program := "ytihddficgpjgpaa", sum := "1e2787b075523cc48f2c24d3a3cd379665a823a91f9087ec4edd47e608dc3c01", func := "glacis/glacislaw02.LabelRight", spec := "labelRight", inPlace := ["slices.overlaps[glacis/api.Pair]"], unfollowed := true, recurses := true, apart := false }
def LabelRightSaid : Prop := labelRightRow.holds Try.pinned (OpenSpec.ofChange labelRightSpec)

/-- ITS FALSE NEIGHBOUR: 'it returns false'. Refute it at one input. -/
def labelRightWrong : ChangeSpec := { name := "labelRight", fn := fun _ => fun
  | [d] => { results := [.lit (.bool false)], args := [d] }
  | _ => none }
def LabelRightWrongFalsely : Prop := labelRightRow.holds Try.pinned (OpenSpec.ofChange labelRightWrong)

/-- 'glacislaw02.LabelWith': WHATEVER THE INPUT: true; the input reads as it did. -/
def labelWithSpec : ChangeSpec := { name := "labelWith", fn := fun _ => fun
  | [d1, d2, d3] => { results := [.lit (.bool true)], args := [d1, d2, d3] }
  | _ => none }
def labelWithRow : OpenClaim := { program := "ytihddficgpjgpaa", sum := "1e2787b075523cc48f2c24d3a3cd379665a823a91f9087ec4edd47e608dc3c01", func := "glacis/glacislaw02.LabelWith", spec := "labelWith", inPlace := ["slices.overlaps[glacis/api.Pair]"], unfollowed := true, recurses := true, apart := false }
def LabelWithSaid : Prop := labelWithRow.holds Try.pinned (OpenSpec.ofChange labelWithSpec)

/-- ITS FALSE NEIGHBOUR: 'it returns false'. Refute it at one input. -/
def labelWithWrong : ChangeSpec := { name := "labelWith", fn := fun _ => fun
  | [d1, d2, d3] => { results := [.lit (.bool false)], args := [d1, d2, d3] }
  | _ => none }
def LabelWithWrongFalsely : Prop := labelWithRow.holds Try.pinned (OpenSpec.ofChange labelWithWrong)

/-- 'glacislaw16.RulesChains': WHATEVER THE INPUT: true; the input reads as it did. -/
def rulesChainsSpec : ChangeSpec := { name := "rulesChains", fn := fun _ => fun
  | [d] => { results := [.lit (.bool true)], args := [d] }
  | _ => none }
def rulesChainsRow : OpenClaim := { program := "ytihddficgpjgpaa", sum := "1e2787b075523cc48f2c24d3a3cd379665a823a91f9087ec4edd47e608dc3c01", func := "glacis/glacislaw16.RulesChains", spec := "rulesChains", inPlace := ["slices.overlaps[glacis/api.Pair]"], unfollowed := true, recurses := true, apart := false }
def RulesChainsSaid : Prop := rulesChainsRow.holds Try.pinned (OpenSpec.ofChange rulesChainsSpec)

/-- ITS FALSE NEIGHBOUR: 'it returns false'. Refute it at one input. -/
def rulesChainsWrong : ChangeSpec := { name := "rulesChains", fn := fun _ => fun
  | [d] => { results := [.lit (.bool false)], args := [d] }
  | _ => none }
def RulesChainsWrongFalsely : Prop := rulesChainsRow.holds Try.pinned (OpenSpec.ofChange rulesChainsWrong)

/-- 'glacislaw02.LabelBounds': WHATEVER THE INPUT: true; the input reads as it did. -/
def labelBoundsSpec : ChangeSpec := { name := "labelBounds", fn := fun _ => fun
  | [d1, d2, d3] => { results := [.lit (.bool true)], args := [d1, d2, d3] }
  | _ => none }
def labelBoundsRow : OpenClaim := { program := "ytihddficgpjgpaa", sum := "1e2787b075523cc48f2c24d3a3cd379665a823a91f9087ec4edd47e608dc3c01", func := "glacis/glacislaw02.LabelBounds", spec := "labelBounds", inPlace := ["slices.overlaps[glacis/api.Pair]"], unfollowed := true, recurses := true, apart := false }
def LabelBoundsSaid : Prop := labelBoundsRow.holds Try.pinned (OpenSpec.ofChange labelBoundsSpec)

/-- ITS FALSE NEIGHBOUR: 'it returns false'. Refute it at one input. -/
def labelBoundsWrong : ChangeSpec := { name := "labelBounds", fn := fun _ => fun
  | [d1, d2, d3] => { results := [.lit (.bool false)], args := [d1, d2, d3] }
  | _ => none }
def LabelBoundsWrongFalsely : Prop := labelBoundsRow.holds Try.pinned (OpenSpec.ofChange labelBoundsWrong)

/-- 'glacislaw02.LabelOrder': WHATEVER THE INPUT: true; the input reads as it did. -/
def labelOrderSpec : ChangeSpec := { name := "labelOrder", fn := fun _ => fun
  | [d1, d2, d3] => { results := [.lit (.bool true)], args := [d1, d2, d3] }
  | _ => none }
def labelOrderRow : OpenClaim := { program := "ytihddficgpjgpaa", sum := "1e2787b075523cc48f2c24d3a3cd379665a823a91f9087ec4edd47e608dc3c01", func := "glacis/glacislaw02.LabelOrder", spec := "labelOrder", inPlace := ["slices.overlaps[glacis/api.Pair]"], unfollowed := true, recurses := true, apart := false }
def LabelOrderSaid : Prop := labelOrderRow.holds Try.pinned (OpenSpec.ofChange labelOrderSpec)

/-- ITS FALSE NEIGHBOUR: 'it returns false'. Refute it at one input. -/
def labelOrderWrong : ChangeSpec := { name := "labelOrder", fn := fun _ => fun
  | [d1, d2, d3] => { results := [.lit (.bool false)], args := [d1, d2, d3] }
  | _ => none }
def LabelOrderWrongFalsely : Prop := labelOrderRow.holds Try.pinned (OpenSpec.ofChange labelOrderWrong)

/-- 'glacislaw02.LabelDual': WHATEVER THE INPUT: true; the input reads as it did. -/
def labelDualSpec : ChangeSpec := { name := "labelDual", fn := fun _ => fun
  | [d1, d2, d3] => { results := [.lit (.bool true)], args := [d1, d2, d3] }
  | _ => none }
def labelDualRow : OpenClaim := { program := "ytihddficgpjgpaa", sum := "1e2787b075523cc48f2c24d3a3cd379665a823a91f9087ec4edd47e608dc3c01", func := "glacis/glacislaw02.LabelDual", spec := "labelDual", inPlace := ["slices.overlaps[glacis/api.Pair]"], unfollowed := true, recurses := true, apart := false }
def LabelDualSaid : Prop := labelDualRow.holds Try.pinned (OpenSpec.ofChange labelDualSpec)

/-- ITS FALSE NEIGHBOUR: 'it returns false'. Refute it at one input. -/
def labelDualWrong : ChangeSpec := { name := "labelDual", fn := fun _ => fun
  | [d1, d2, d3] => { results := [.lit (.bool false)], args := [d1, d2, d3] }
  | _ => none }
def LabelDualWrongFalsely : Prop := labelDualRow.holds Try.pinned (OpenSpec.ofChange labelDualWrong)

/-- 'glacislaw16.RulesGates': WHATEVER THE INPUT: true; the input reads as it did. -/
def rulesGatesSpec : ChangeSpec := { name := "rulesGates", fn := fun _ => fun
  | [d1, d2] => { results := [.lit (.bool true)], args := [d1, d2] }
  | _ => none }
def rulesGatesRow : OpenClaim := { program := "ytihddficgpjgpaa", sum := "1e2787b075523cc48f2c24d3a3cd379665a823a91f9087ec4edd47e608dc3c01", func := "glacis/glacislaw16.RulesGates", spec := "rulesGates", inPlace := ["slices.overlaps[glacis/api.Pair]"], unfollowed := true, recurses := true, apart := false }
def RulesGatesSaid : Prop := rulesGatesRow.holds Try.pinned (OpenSpec.ofChange rulesGatesSpec)

/-- ITS FALSE NEIGHBOUR: 'it returns false'. Refute it at one input. -/
def rulesGatesWrong : ChangeSpec := { name := "rulesGates", fn := fun _ => fun
  | [d1, d2] => { results := [.lit (.bool false)], args := [d1, d2] }
  | _ => none }
def RulesGatesWrongFalsely : Prop := rulesGatesRow.holds Try.pinned (OpenSpec.ofChange rulesGatesWrong)

/-- 'glacislaw16.RulesSeen': WHATEVER THE INPUT: true; the input reads as it did. -/
def rulesSeenSpec : ChangeSpec := { name := "rulesSeen", fn := fun _ => fun
  | [d] => { results := [.lit (.bool true)], args := [d] }
  | _ => none }
def rulesSeenRow : OpenClaim := { program := "ytihddficgpjgpaa", sum := "1e2787b075523cc48f2c24d3a3cd379665a823a91f9087ec4edd47e608dc3c01", func := "glacis/glacislaw16.RulesSeen", spec := "rulesSeen", inPlace := ["slices.overlaps[glacis/api.Pair]"], unfollowed := true, recurses := true, apart := false }
def RulesSeenSaid : Prop := rulesSeenRow.holds Try.pinned (OpenSpec.ofChange rulesSeenSpec)

/-- ITS FALSE NEIGHBOUR: 'it returns false'. Refute it at one input. -/
def rulesSeenWrong : ChangeSpec := { name := "rulesSeen", fn := fun _ => fun
  | [d] => { results := [.lit (.bool false)], args := [d] }
  | _ => none }
def RulesSeenWrongFalsely : Prop := rulesSeenRow.holds Try.pinned (OpenSpec.ofChange rulesSeenWrong)

/-- 'glacislaw16.RulesReads': WHATEVER THE INPUT: true; the input reads as it did. -/
def rulesReadsSpec : ChangeSpec := { name := "rulesReads", fn := fun _ => fun
  | [d] => { results := [.lit (.bool true)], args := [d] }
  | _ => none }
def rulesReadsRow : OpenClaim := { program := "ytihddficgpjgpaa", sum := "1e2787b075523cc48f2c24d3a3cd379665a823a91f9087ec4edd47e608dc3c01", func := "glacis/glacislaw16.RulesReads", spec := "rulesReads", inPlace := ["slices.overlaps[glacis/api.Pair]"], unfollowed := true, recurses := true, apart := false }
def RulesReadsSaid : Prop := rulesReadsRow.holds Try.pinned (OpenSpec.ofChange rulesReadsSpec)

/-- ITS FALSE NEIGHBOUR: 'it returns false'. Refute it at one input. -/
def rulesReadsWrong : ChangeSpec := { name := "rulesReads", fn := fun _ => fun
  | [d] => { results := [.lit (.bool false)], args := [d] }
  | _ => none }
def RulesReadsWrongFalsely : Prop := rulesReadsRow.holds Try.pinned (OpenSpec.ofChange rulesReadsWrong)

/-- 'glacislaw16.RulesRise': WHATEVER THE INPUT: true; the input reads as it did. -/
def rulesRiseSpec : ChangeSpec := { name := "rulesRise", fn := fun _ => fun
  | [d1, d2] => { results := [.lit (.bool true)], args := [d1, d2] }
  | _ => none }
def rulesRiseRow : OpenClaim := { program := "ytihddficgpjgpaa", sum := "1e2787b075523cc48f2c24d3a3cd379665a823a91f9087ec4edd47e608dc3c01", func := "glacis/glacislaw16.RulesRise", spec := "rulesRise", inPlace := ["slices.overlaps[glacis/api.Pair]"], unfollowed := true, recurses := true, apart := false }
def RulesRiseSaid : Prop := rulesRiseRow.holds Try.pinned (OpenSpec.ofChange rulesRiseSpec)

/-- ITS FALSE NEIGHBOUR: 'it returns false'. Refute it at one input. -/
def rulesRiseWrong : ChangeSpec := { name := "rulesRise", fn := fun _ => fun
  | [d1, d2] => { results := [.lit (.bool false)], args := [d1, d2] }
  | _ => none }
def RulesRiseWrongFalsely : Prop := rulesRiseRow.holds Try.pinned (OpenSpec.ofChange rulesRiseWrong)

/-- 'glacislaw16.RulesGive': WHATEVER THE INPUT: true; the input reads as it did. -/
def rulesGiveSpec : ChangeSpec := { name := "rulesGive", fn := fun _ => fun
  | [d1, d2, d3] => { results := [.lit (.bool true)], args := [d1, d2, d3] }
  | _ => none }
def rulesGiveRow : OpenClaim := { program := "ytihddficgpjgpaa", sum := "1e2787b075523cc48f2c24d3a3cd379665a823a91f9087ec4edd47e608dc3c01", func := "glacis/glacislaw16.RulesGive", spec := "rulesGive", inPlace := ["slices.overlaps[glacis/api.Pair]"], unfollowed := true, recurses := true, apart := false }
def RulesGiveSaid : Prop := rulesGiveRow.holds Try.pinned (OpenSpec.ofChange rulesGiveSpec)

/-- ITS FALSE NEIGHBOUR: 'it returns false'. Refute it at one input. -/
def rulesGiveWrong : ChangeSpec := { name := "rulesGive", fn := fun _ => fun
  | [d1, d2, d3] => { results := [.lit (.bool false)], args := [d1, d2, d3] }
  | _ => none }
def RulesGiveWrongFalsely : Prop := rulesGiveRow.holds Try.pinned (OpenSpec.ofChange rulesGiveWrong)

/-- 'glacislaw02.LabelMakes': WHATEVER THE INPUT: true; the input reads as it did. -/
def labelMakesSpec : ChangeSpec := { name := "labelMakes", fn := fun _ => fun
  | [d1, d2] => { results := [.lit (.bool true)], args := [d1, d2] }
  | _ => none }
def labelMakesRow : OpenClaim := { program := "ytihddficgpjgpaa", sum := "1e2787b075523cc48f2c24d3a3cd379665a823a91f9087ec4edd47e608dc3c01", func := "glacis/glacislaw02.LabelMakes", spec := "labelMakes", inPlace := ["slices.overlaps[glacis/api.Pair]"], unfollowed := true, recurses := true, apart := false }
def LabelMakesSaid : Prop := labelMakesRow.holds Try.pinned (OpenSpec.ofChange labelMakesSpec)

/-- ITS FALSE NEIGHBOUR: 'it returns false'. Refute it at one input. -/
def labelMakesWrong : ChangeSpec := { name := "labelMakes", fn := fun _ => fun
  | [d1, d2] => { results := [.lit (.bool false)], args := [d1, d2] }
  | _ => none }
def LabelMakesWrongFalsely : Prop := labelMakesRow.holds Try.pinned (OpenSpec.ofChange labelMakesWrong)

/-- 'glacislaw16.RulesFresh': WHATEVER THE INPUT: true; the input reads as it did. -/
def rulesFreshSpec : ChangeSpec := { name := "rulesFresh", fn := fun _ => fun
  | [d1, d2, d3] => { results := [.lit (.bool true)], args := [d1, d2, d3] }
  | _ => none }
def rulesFreshRow : OpenClaim := { program := "ytihddficgpjgpaa", sum := "1e2787b075523cc48f2c24d3a3cd379665a823a91f9087ec4edd47e608dc3c01", func := "glacis/glacislaw16.RulesFresh", spec := "rulesFresh", inPlace := ["slices.overlaps[glacis/api.Pair]"], unfollowed := true, recurses := true, apart := false }
def RulesFreshSaid : Prop := rulesFreshRow.holds Try.pinned (OpenSpec.ofChange rulesFreshSpec)

/-- ITS FALSE NEIGHBOUR: 'it returns false'. Refute it at one input. -/
def rulesFreshWrong : ChangeSpec := { name := "rulesFresh", fn := fun _ => fun
  | [d1, d2, d3] => { results := [.lit (.bool false)], args := [d1, d2, d3] }
  | _ => none }
def RulesFreshWrongFalsely : Prop := rulesFreshRow.holds Try.pinned (OpenSpec.ofChange rulesFreshWrong)

/-- 'glacislaw02.LabelAsks': WHATEVER THE INPUT: true; the input reads as it did. -/
def labelAsksSpec : ChangeSpec := { name := "labelAsks", fn := fun _ => fun
  | [d1, d2, d3] => { results := [.lit (.bool true)], args := [d1, d2, d3] }
  | _ => none }
def labelAsksRow : OpenClaim := { program := "ytihddficgpjgpaa", sum := "1e2787b075523cc48f2c24d3a3cd379665a823a91f9087ec4edd47e608dc3c01", func := "glacis/glacislaw02.LabelAsks", spec := "labelAsks", inPlace := ["slices.overlaps[glacis/api.Pair]"], unfollowed := true, recurses := true, apart := false }
def LabelAsksSaid : Prop := labelAsksRow.holds Try.pinned (OpenSpec.ofChange labelAsksSpec)

/-- ITS FALSE NEIGHBOUR: 'it returns false'. Refute it at one input. -/
def labelAsksWrong : ChangeSpec := { name := "labelAsks", fn := fun _ => fun
  | [d1, d2, d3] => { results := [.lit (.bool false)], args := [d1, d2, d3] }
  | _ => none }
def LabelAsksWrongFalsely : Prop := labelAsksRow.holds Try.pinned (OpenSpec.ofChange labelAsksWrong)

/-- 'glacislaw02.LabelRaises': WHATEVER THE INPUT: true; the input reads as it did. -/
def labelRaisesSpec : ChangeSpec := { name := "labelRaises", fn := fun _ => fun
  | [d1, d2] => { results := [.lit (.bool true)], args := [d1, d2] }
  | _ => none }
def labelRaisesRow : OpenClaim := { program := "ytihddficgpjgpaa", sum := "1e2787b075523cc48f2c24d3a3cd379665a823a91f9087ec4edd47e608dc3c01", func := "glacis/glacislaw02.LabelRaises", spec := "labelRaises", inPlace := ["slices.overlaps[glacis/api.Pair]"], unfollowed := true, recurses := true, apart := false }
def LabelRaisesSaid : Prop := labelRaisesRow.holds Try.pinned (OpenSpec.ofChange labelRaisesSpec)

/-- ITS FALSE NEIGHBOUR: 'it returns false'. Refute it at one input. -/
def labelRaisesWrong : ChangeSpec := { name := "labelRaises", fn := fun _ => fun
  | [d1, d2] => { results := [.lit (.bool false)], args := [d1, d2] }
  | _ => none }
def LabelRaisesWrongFalsely : Prop := labelRaisesRow.holds Try.pinned (OpenSpec.ofChange labelRaisesWrong)

/-- 'glacislaw16.RulesAsk': WHATEVER THE INPUT: true; the input reads as it did. -/
def rulesAskSpec : ChangeSpec := { name := "rulesAsk", fn := fun _ => fun
  | [d] => { results := [.lit (.bool true)], args := [d] }
  | _ => none }
def rulesAskRow : OpenClaim := { program := "ytihddficgpjgpaa", sum := "1e2787b075523cc48f2c24d3a3cd379665a823a91f9087ec4edd47e608dc3c01", func := "glacis/glacislaw16.RulesAsk", spec := "rulesAsk", inPlace := ["slices.overlaps[glacis/api.Pair]"], unfollowed := true, recurses := true, apart := false }
def RulesAskSaid : Prop := rulesAskRow.holds Try.pinned (OpenSpec.ofChange rulesAskSpec)

/-- ITS FALSE NEIGHBOUR: 'it returns false'. Refute it at one input. -/
def rulesAskWrong : ChangeSpec := { name := "rulesAsk", fn := fun _ => fun
  | [d] => { results := [.lit (.bool false)], args := [d] }
  | _ => none }
def RulesAskWrongFalsely : Prop := rulesAskRow.holds Try.pinned (OpenSpec.ofChange rulesAskWrong)

/-- 'glacislaw20.ConfigBack': WHATEVER THE INPUT: true; the input reads as it did. -/
def configBackSpec : ChangeSpec := { name := "configBack", fn := fun _ => fun
  | [d] => { results := [.lit (.bool true)], args := [d] }
  | _ => none }
def configBackRow : OpenClaim := { program := "ytihddficgpjgpaa", sum := "1e2787b075523cc48f2c24d3a3cd379665a823a91f9087ec4edd47e608dc3c01", func := "glacis/glacislaw20.ConfigBack", spec := "configBack", unfollowed := true, recurses := true, apart := false }
def ConfigBackSaid : Prop := configBackRow.holds Try.pinned (OpenSpec.ofChange configBackSpec)

/-- ITS FALSE NEIGHBOUR: 'it returns false'. Refute it at one input. -/
def configBackWrong : ChangeSpec := { name := "configBack", fn := fun _ => fun
  | [d] => { results := [.lit (.bool false)], args := [d] }
  | _ => none }
def ConfigBackWrongFalsely : Prop := configBackRow.holds Try.pinned (OpenSpec.ofChange configBackWrong)

/-- 'glacislaw20.ConfigBytes': WHATEVER THE INPUT: true; the input reads as it did. -/
def configBytesSpec : ChangeSpec := { name := "configBytes", fn := fun _ => fun
  | [d1, d2, d3] => { results := [.lit (.bool true)], args := [d1, d2, d3] }
  | _ => none }
def configBytesRow : OpenClaim := { program := "ytihddficgpjgpaa", sum := "1e2787b075523cc48f2c24d3a3cd379665a823a91f9087ec4edd47e608dc3c01", func := "glacis/glacislaw20.ConfigBytes", spec := "configBytes", unfollowed := true, recurses := true, apart := false }
def ConfigBytesSaid : Prop := configBytesRow.holds Try.pinned (OpenSpec.ofChange configBytesSpec)

/-- ITS FALSE NEIGHBOUR: 'it returns false'. Refute it at one input. -/
def configBytesWrong : ChangeSpec := { name := "configBytes", fn := fun _ => fun
  | [d1, d2, d3] => { results := [.lit (.bool false)], args := [d1, d2, d3] }
  | _ => none }
def ConfigBytesWrongFalsely : Prop := configBytesRow.holds Try.pinned (OpenSpec.ofChange configBytesWrong)

/- THE SECOND FORM. 'bulk': how many values and letters a reading holds, each counted each time it is reached (what is shared counts as often as it is met; a slice's spare places count too). A statement '..UptoSaid' is the law's where the arguments, and the package variables that the reading takes, are together of bulk at most 1048576: NARROWER than '..Said'. Prove '..Said' where nothing that the law and all that it calls make is longer than what came in: it says more and counts as full. Else prove '..UptoSaid'. A law counts once. -/
mutual
def uptoBulk {H : Type} : DataW H → Nat
  | .lit (.string bytes) => bytes.length + 1
  | .lit _ => 1
  | .nil => 1
  | .ptr d => uptoBulk d + 1
  | .slice elems spare => uptoBulkAll elems + uptoBulkAll spare + 1
  | .agg parts => uptoBulkAll parts + 1
  | .iface _ d => uptoBulk d + 1
  | .map entries => uptoBulkEntries entries + 1
  | .held _ => 1
def uptoBulkAll {H : Type} : List (DataW H) → Nat
  | [] => 0
  | d :: r => uptoBulk d + uptoBulkAll r
def uptoBulkEntries {H : Type} : List (Lit × DataW H) → Nat
  | [] => 0
  | x :: r => uptoBulkEntry x + uptoBulkEntries r
def uptoBulkEntry {H : Type} : Lit × DataW H → Nat
  | (.string bytes, d) => bytes.length + uptoBulk d + 1
  | (_, d) => uptoBulk d + 1
 end
def uptoSmall : (H : Type) → List (DataW H) → Bool := fun _ ds => decide (uptoBulkAll ds ≤ 1048576)
def OpenSpec.upto (s : _root_.Go.ChangeSpec) : _root_.Go.OpenSpec := { _root_.Go.OpenSpec.ofChange s with cond := some uptoSmall }

/-- 'glacislaw03.PackPuts', WHERE WHAT IT READS IS OF BULK AT MOST 1048576: true; the input reads as it did. -/
def packPutsUptoRow : OpenClaim := { program := "ytihddficgpjgpaa", sum := "1e2787b075523cc48f2c24d3a3cd379665a823a91f9087ec4edd47e608dc3c01", func := "glacis/glacislaw03.PackPuts", spec := "packPuts", apart := false, narrowed := true }
def PackPutsUptoSaid : Prop := packPutsUptoRow.holds Try.pinned (OpenSpec.upto packPutsSpec)

/-- 'glacislaw03.PackApart', WHERE WHAT IT READS IS OF BULK AT MOST 1048576: true; the input reads as it did. -/
def packApartUptoRow : OpenClaim := { program := "ytihddficgpjgpaa", sum := "1e2787b075523cc48f2c24d3a3cd379665a823a91f9087ec4edd47e608dc3c01", func := "glacis/glacislaw03.PackApart", spec := "packApart", apart := false, narrowed := true }
def PackApartUptoSaid : Prop := packApartUptoRow.holds Try.pinned (OpenSpec.upto packApartSpec)

/-- 'glacislaw03.PackJoins', WHERE WHAT IT READS IS OF BULK AT MOST 1048576: true; the input reads as it did. -/
def packJoinsUptoRow : OpenClaim := { program := "ytihddficgpjgpaa", sum := "1e2787b075523cc48f2c24d3a3cd379665a823a91f9087ec4edd47e608dc3c01", func := "glacis/glacislaw03.PackJoins", spec := "packJoins", apart := false, narrowed := true }
def PackJoinsUptoSaid : Prop := packJoinsUptoRow.holds Try.pinned (OpenSpec.upto packJoinsSpec)

/-- 'glacislaw03.PackBack', WHERE WHAT IT READS IS OF BULK AT MOST 1048576: true; the input reads as it did. -/
def packBackUptoRow : OpenClaim := { program := "ytihddficgpjgpaa", sum := "1e2787b075523cc48f2c24d3a3cd379665a823a91f9087ec4edd47e608dc3c01", func := "glacis/glacislaw03.PackBack", spec := "packBack", apart := false, narrowed := true }
def PackBackUptoSaid : Prop := packBackUptoRow.holds Try.pinned (OpenSpec.upto packBackSpec)

/-- 'glacislaw03.PackOnly', WHERE WHAT IT READS IS OF BULK AT MOST 1048576: true; the input reads as it did. -/
def packOnlyUptoRow : OpenClaim := { program := "ytihddficgpjgpaa", sum := "1e2787b075523cc48f2c24d3a3cd379665a823a91f9087ec4edd47e608dc3c01", func := "glacis/glacislaw03.PackOnly", spec := "packOnly", apart := false, narrowed := true }
def PackOnlyUptoSaid : Prop := packOnlyUptoRow.holds Try.pinned (OpenSpec.upto packOnlySpec)

/-- 'glacislaw20.ConfigRight', WHERE WHAT IT READS IS OF BULK AT MOST 1048576: true; the input reads as it did. -/
def configRightUptoRow : OpenClaim := { program := "ytihddficgpjgpaa", sum := "1e2787b075523cc48f2c24d3a3cd379665a823a91f9087ec4edd47e608dc3c01", func := "glacis/glacislaw20.ConfigRight", spec := "configRight", unfollowed := true, recurses := true, apart := false, narrowed := true }
def ConfigRightUptoSaid : Prop := configRightUptoRow.holds Try.pinned (OpenSpec.upto configRightSpec)

/-- 'glacislaw20.ConfigLimits', WHERE WHAT IT READS IS OF BULK AT MOST 1048576: true; the input reads as it did. -/
def configLimitsUptoRow : OpenClaim := { program := "ytihddficgpjgpaa", sum := "1e2787b075523cc48f2c24d3a3cd379665a823a91f9087ec4edd47e608dc3c01", func := "glacis/glacislaw20.ConfigLimits", spec := "configLimits", unfollowed := true, recurses := true, apart := false, narrowed := true }
def ConfigLimitsUptoSaid : Prop := configLimitsUptoRow.holds Try.pinned (OpenSpec.upto configLimitsSpec)

/-- 'glacislaw02.LabelRight', WHERE WHAT IT READS IS OF BULK AT MOST 1048576: true; the input reads as it did. -/
def labelRightUptoRow : OpenClaim := { program := "ytihddficgpjgpaa", sum := "1e2787b075523cc48f2c24d3a3cd379665a823a91f9087ec4edd47e608dc3c01", func := "glacis/glacislaw02.LabelRight", spec := "labelRight", inPlace := ["slices.overlaps[glacis/api.Pair]"], unfollowed := true, recurses := true, apart := false, narrowed := true }
def LabelRightUptoSaid : Prop := labelRightUptoRow.holds Try.pinned (OpenSpec.upto labelRightSpec)

/-- 'glacislaw02.LabelWith', WHERE WHAT IT READS IS OF BULK AT MOST 1048576: true; the input reads as it did. -/
def labelWithUptoRow : OpenClaim := { program := "ytihddficgpjgpaa", sum := "1e2787b075523cc48f2c24d3a3cd379665a823a91f9087ec4edd47e608dc3c01", func := "glacis/glacislaw02.LabelWith", spec := "labelWith", inPlace := ["slices.overlaps[glacis/api.Pair]"], unfollowed := true, recurses := true, apart := false, narrowed := true }
def LabelWithUptoSaid : Prop := labelWithUptoRow.holds Try.pinned (OpenSpec.upto labelWithSpec)

/-- 'glacislaw16.RulesChains', WHERE WHAT IT READS IS OF BULK AT MOST 1048576: true; the input reads as it did. -/
def rulesChainsUptoRow : OpenClaim := { program := "ytihddficgpjgpaa", sum := "1e2787b075523cc48f2c24d3a3cd379665a823a91f9087ec4edd47e608dc3c01", func := "glacis/glacislaw16.RulesChains", spec := "rulesChains", inPlace := ["slices.overlaps[glacis/api.Pair]"], unfollowed := true, recurses := true, apart := false, narrowed := true }
def RulesChainsUptoSaid : Prop := rulesChainsUptoRow.holds Try.pinned (OpenSpec.upto rulesChainsSpec)

/-- 'glacislaw02.LabelBounds', WHERE WHAT IT READS IS OF BULK AT MOST 1048576: true; the input reads as it did. -/
def labelBoundsUptoRow : OpenClaim := { program := "ytihddficgpjgpaa", sum := "1e2787b075523cc48f2c24d3a3cd379665a823a91f9087ec4edd47e608dc3c01", func := "glacis/glacislaw02.LabelBounds", spec := "labelBounds", inPlace := ["slices.overlaps[glacis/api.Pair]"], unfollowed := true, recurses := true, apart := false, narrowed := true }
def LabelBoundsUptoSaid : Prop := labelBoundsUptoRow.holds Try.pinned (OpenSpec.upto labelBoundsSpec)

/-- 'glacislaw02.LabelOrder', WHERE WHAT IT READS IS OF BULK AT MOST 1048576: true; the input reads as it did. -/
def labelOrderUptoRow : OpenClaim := { program := "ytihddficgpjgpaa", sum := "1e2787b075523cc48f2c24d3a3cd379665a823a91f9087ec4edd47e608dc3c01", func := "glacis/glacislaw02.LabelOrder", spec := "labelOrder", inPlace := ["slices.overlaps[glacis/api.Pair]"], unfollowed := true, recurses := true, apart := false, narrowed := true }
def LabelOrderUptoSaid : Prop := labelOrderUptoRow.holds Try.pinned (OpenSpec.upto labelOrderSpec)

/-- 'glacislaw02.LabelDual', WHERE WHAT IT READS IS OF BULK AT MOST 1048576: true; the input reads as it did. -/
def labelDualUptoRow : OpenClaim := { program := "ytihddficgpjgpaa", sum := "1e2787b075523cc48f2c24d3a3cd379665a823a91f9087ec4edd47e608dc3c01", func := "glacis/glacislaw02.LabelDual", spec := "labelDual", inPlace := ["slices.overlaps[glacis/api.Pair]"], unfollowed := true, recurses := true, apart := false, narrowed := true }
def LabelDualUptoSaid : Prop := labelDualUptoRow.holds Try.pinned (OpenSpec.upto labelDualSpec)

/-- 'glacislaw16.RulesGates', WHERE WHAT IT READS IS OF BULK AT MOST 1048576: true; the input reads as it did. -/
def rulesGatesUptoRow : OpenClaim := { program := "ytihddficgpjgpaa", sum := "1e2787b075523cc48f2c24d3a3cd379665a823a91f9087ec4edd47e608dc3c01", func := "glacis/glacislaw16.RulesGates", spec := "rulesGates", inPlace := ["slices.overlaps[glacis/api.Pair]"], unfollowed := true, recurses := true, apart := false, narrowed := true }
def RulesGatesUptoSaid : Prop := rulesGatesUptoRow.holds Try.pinned (OpenSpec.upto rulesGatesSpec)

/-- 'glacislaw16.RulesSeen', WHERE WHAT IT READS IS OF BULK AT MOST 1048576: true; the input reads as it did. -/
def rulesSeenUptoRow : OpenClaim := { program := "ytihddficgpjgpaa", sum := "1e2787b075523cc48f2c24d3a3cd379665a823a91f9087ec4edd47e608dc3c01", func := "glacis/glacislaw16.RulesSeen", spec := "rulesSeen", inPlace := ["slices.overlaps[glacis/api.Pair]"], unfollowed := true, recurses := true, apart := false, narrowed := true }
def RulesSeenUptoSaid : Prop := rulesSeenUptoRow.holds Try.pinned (OpenSpec.upto rulesSeenSpec)

/-- 'glacislaw16.RulesReads', WHERE WHAT IT READS IS OF BULK AT MOST 1048576: true; the input reads as it did. -/
def rulesReadsUptoRow : OpenClaim := { program := "ytihddficgpjgpaa", sum := "1e2787b075523cc48f2c24d3a3cd379665a823a91f9087ec4edd47e608dc3c01", func := "glacis/glacislaw16.RulesReads", spec := "rulesReads", inPlace := ["slices.overlaps[glacis/api.Pair]"], unfollowed := true, recurses := true, apart := false, narrowed := true }
def RulesReadsUptoSaid : Prop := rulesReadsUptoRow.holds Try.pinned (OpenSpec.upto rulesReadsSpec)

/-- 'glacislaw16.RulesRise', WHERE WHAT IT READS IS OF BULK AT MOST 1048576: true; the input reads as it did. -/
def rulesRiseUptoRow : OpenClaim := { program := "ytihddficgpjgpaa", sum := "1e2787b075523cc48f2c24d3a3cd379665a823a91f9087ec4edd47e608dc3c01", func := "glacis/glacislaw16.RulesRise", spec := "rulesRise", inPlace := ["slices.overlaps[glacis/api.Pair]"], unfollowed := true, recurses := true, apart := false, narrowed := true }
def RulesRiseUptoSaid : Prop := rulesRiseUptoRow.holds Try.pinned (OpenSpec.upto rulesRiseSpec)

/-- 'glacislaw16.RulesGive', WHERE WHAT IT READS IS OF BULK AT MOST 1048576: true; the input reads as it did. -/
def rulesGiveUptoRow : OpenClaim := { program := "ytihddficgpjgpaa", sum := "1e2787b075523cc48f2c24d3a3cd379665a823a91f9087ec4edd47e608dc3c01", func := "glacis/glacislaw16.RulesGive", spec := "rulesGive", inPlace := ["slices.overlaps[glacis/api.Pair]"], unfollowed := true, recurses := true, apart := false, narrowed := true }
def RulesGiveUptoSaid : Prop := rulesGiveUptoRow.holds Try.pinned (OpenSpec.upto rulesGiveSpec)

/-- 'glacislaw02.LabelMakes', WHERE WHAT IT READS IS OF BULK AT MOST 1048576: true; the input reads as it did. -/
def labelMakesUptoRow : OpenClaim := { program := "ytihddficgpjgpaa", sum := "1e2787b075523cc48f2c24d3a3cd379665a823a91f9087ec4edd47e608dc3c01", func := "glacis/glacislaw02.LabelMakes", spec := "labelMakes", inPlace := ["slices.overlaps[glacis/api.Pair]"], unfollowed := true, recurses := true, apart := false, narrowed := true }
def LabelMakesUptoSaid : Prop := labelMakesUptoRow.holds Try.pinned (OpenSpec.upto labelMakesSpec)

/-- 'glacislaw16.RulesFresh', WHERE WHAT IT READS IS OF BULK AT MOST 1048576: true; the input reads as it did. -/
def rulesFreshUptoRow : OpenClaim := { program := "ytihddficgpjgpaa", sum := "1e2787b075523cc48f2c24d3a3cd379665a823a91f9087ec4edd47e608dc3c01", func := "glacis/glacislaw16.RulesFresh", spec := "rulesFresh", inPlace := ["slices.overlaps[glacis/api.Pair]"], unfollowed := true, recurses := true, apart := false, narrowed := true }
def RulesFreshUptoSaid : Prop := rulesFreshUptoRow.holds Try.pinned (OpenSpec.upto rulesFreshSpec)

/-- 'glacislaw02.LabelAsks', WHERE WHAT IT READS IS OF BULK AT MOST 1048576: true; the input reads as it did. -/
def labelAsksUptoRow : OpenClaim := { program := "ytihddficgpjgpaa", sum := "1e2787b075523cc48f2c24d3a3cd379665a823a91f9087ec4edd47e608dc3c01", func := "glacis/glacislaw02.LabelAsks", spec := "labelAsks", inPlace := ["slices.overlaps[glacis/api.Pair]"], unfollowed := true, recurses := true, apart := false, narrowed := true }
def LabelAsksUptoSaid : Prop := labelAsksUptoRow.holds Try.pinned (OpenSpec.upto labelAsksSpec)

/-- 'glacislaw02.LabelRaises', WHERE WHAT IT READS IS OF BULK AT MOST 1048576: true; the input reads as it did. -/
def labelRaisesUptoRow : OpenClaim := { program := "ytihddficgpjgpaa", sum := "1e2787b075523cc48f2c24d3a3cd379665a823a91f9087ec4edd47e608dc3c01", func := "glacis/glacislaw02.LabelRaises", spec := "labelRaises", inPlace := ["slices.overlaps[glacis/api.Pair]"], unfollowed := true, recurses := true, apart := false, narrowed := true }
def LabelRaisesUptoSaid : Prop := labelRaisesUptoRow.holds Try.pinned (OpenSpec.upto labelRaisesSpec)

/-- 'glacislaw16.RulesAsk', WHERE WHAT IT READS IS OF BULK AT MOST 1048576: true; the input reads as it did. -/
def rulesAskUptoRow : OpenClaim := { program := "ytihddficgpjgpaa", sum := "1e2787b075523cc48f2c24d3a3cd379665a823a91f9087ec4edd47e608dc3c01", func := "glacis/glacislaw16.RulesAsk", spec := "rulesAsk", inPlace := ["slices.overlaps[glacis/api.Pair]"], unfollowed := true, recurses := true, apart := false, narrowed := true }
def RulesAskUptoSaid : Prop := rulesAskUptoRow.holds Try.pinned (OpenSpec.upto rulesAskSpec)

/-- 'glacislaw20.ConfigBack', WHERE WHAT IT READS IS OF BULK AT MOST 1048576: true; the input reads as it did. -/
def configBackUptoRow : OpenClaim := { program := "ytihddficgpjgpaa", sum := "1e2787b075523cc48f2c24d3a3cd379665a823a91f9087ec4edd47e608dc3c01", func := "glacis/glacislaw20.ConfigBack", spec := "configBack", unfollowed := true, recurses := true, apart := false, narrowed := true }
def ConfigBackUptoSaid : Prop := configBackUptoRow.holds Try.pinned (OpenSpec.upto configBackSpec)

/-- 'glacislaw20.ConfigBytes', WHERE WHAT IT READS IS OF BULK AT MOST 1048576: true; the input reads as it did. -/
def configBytesUptoRow : OpenClaim := { program := "ytihddficgpjgpaa", sum := "1e2787b075523cc48f2c24d3a3cd379665a823a91f9087ec4edd47e608dc3c01", func := "glacis/glacislaw20.ConfigBytes", spec := "configBytes", unfollowed := true, recurses := true, apart := false, narrowed := true }
def ConfigBytesUptoSaid : Prop := configBytesUptoRow.holds Try.pinned (OpenSpec.upto configBytesSpec)

end Rows
end Go.Proofs.Ytihddficgpjgpaa
