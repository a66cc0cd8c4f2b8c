/-
  No cell of these rows narrows 'for every input' (looked for: loops, veiled, ifaces, maps, wideKeys, modest, calm, conditions, laid).
  DERIVED. THE GIVEN ROWS OF THIS SEAT. 13 by the template 'for every input the law returns true; each argument reads behind the call as it read before'; 0 by the template 'total and deterministic' (their statements: YtedampaecopkhaaTotals.lean).
  GIVEN WITH THE SEED: the statements are not yours to turn. If you find one false, say at which input.
  Laid BY PROGRAM, IN A SANDBOX (cutbox-rows.mjs): the forced cells as the released guide's own fill.sh prints them over the translation 4165e58f8064d579… (all of the seat's roots in one cut). By AI agents, Wed Nov 11 2026. No macro, syntax, notation, axiom, sorry.
-/
import Derived.Test.YtedampaecopkhaaChecked
import GoSem.Claim
import GoSem.ClaimJoined
import GoSem.ClaimMapViews
import Derived.JoinedTies
import Derived.KernelRfl
namespace Go.Proofs.Ytedampaecopkhaa
/- THE CELL 'sum', in the pinned program and in every row, IS THE sha256 OF THE DUMP (.gsa) THAT YtedampaecopkhaaProg.lean LOADS. Nothing in Lean hashes anything: it is a label: what it is worth is what the hold of that sum in a sandbox is worth. -/
noncomputable def Try.pinned : Pinned := { name := "ytedampaecopkhaa", sum := "4165e58f8064d5791def7a64d58e732eebf1f015d1157c99b1de58f79e24d98c", checked := Try.checked }
namespace Rows
def none {H : Type} : Left H := { results := [], args := [] }

/-- 'laws.FnExactIsCollapsed': WHATEVER THE INPUT: true; the input reads as it did. -/
def fnExactIsCollapsedSpec : ChangeSpec := { name := "fnExactIsCollapsed", fn := fun _ => fun
  | [d] => { results := [.lit (.bool true)], args := [d] }
  | _ => none }
def fnExactIsCollapsedRow : OpenClaim := { program := "ytedampaecopkhaa", sum := "4165e58f8064d5791def7a64d58e732eebf1f015d1157c99b1de58f79e24d98c", func := "loop.example/g03100/laws.FnExactIsCollapsed", spec := "fnExactIsCollapsed", apart := false }
def FnExactIsCollapsedSaid : Prop := fnExactIsCollapsedRow.holds Try.pinned (OpenSpec.ofChange fnExactIsCollapsedSpec)

/-- ITS FALSE NEIGHBOUR: 'it returns false'. Refute it at one input. -/
def fnExactIsCollapsedWrong : ChangeSpec := { name := "fnExactIsCollapsed", fn := fun _ => fun
  | [d] => { results := [.lit (.bool false)], args := [d] }
  | _ => none }
def FnExactIsCollapsedWrongFalsely : Prop := fnExactIsCollapsedRow.holds Try.pinned (OpenSpec.ofChange fnExactIsCollapsedWrong)

/-- 'laws.FnExactIsChain': WHATEVER THE INPUT: true; the input reads as it did. -/
def fnExactIsChainSpec : ChangeSpec := { name := "fnExactIsChain", fn := fun _ => fun
  | [d1, d2, d3, d4] => { results := [.lit (.bool true)], args := [d1, d2, d3, d4] }
  | _ => none }
def fnExactIsChainRow : OpenClaim := { program := "ytedampaecopkhaa", sum := "4165e58f8064d5791def7a64d58e732eebf1f015d1157c99b1de58f79e24d98c", func := "loop.example/g03100/laws.FnExactIsChain", spec := "fnExactIsChain", apart := false }
def FnExactIsChainSaid : Prop := fnExactIsChainRow.holds Try.pinned (OpenSpec.ofChange fnExactIsChainSpec)

/-- ITS FALSE NEIGHBOUR: 'it returns false'. Refute it at one input. -/
def fnExactIsChainWrong : ChangeSpec := { name := "fnExactIsChain", fn := fun _ => fun
  | [d1, d2, d3, d4] => { results := [.lit (.bool false)], args := [d1, d2, d3, d4] }
  | _ => none }
def FnExactIsChainWrongFalsely : Prop := fnExactIsChainRow.holds Try.pinned (OpenSpec.ofChange fnExactIsChainWrong)

/-- 'laws.FnExactFreeFaces': WHATEVER THE INPUT: true; the input reads as it did. -/
def fnExactFreeFacesSpec : ChangeSpec := { name := "fnExactFreeFaces", fn := fun _ => fun
  | [d] => { results := [.lit (.bool true)], args := [d] }
  | _ => none }
def fnExactFreeFacesRow : OpenClaim := { program := "ytedampaecopkhaa", sum := "4165e58f8064d5791def7a64d58e732eebf1f015d1157c99b1de58f79e24d98c", func := "loop.example/g03100/laws.FnExactFreeFaces", spec := "fnExactFreeFaces", apart := false }
def FnExactFreeFacesSaid : Prop := fnExactFreeFacesRow.holds Try.pinned (OpenSpec.ofChange fnExactFreeFacesSpec)

/-- ITS FALSE NEIGHBOUR: 'it returns false'. Refute it at one input. -/
def fnExactFreeFacesWrong : ChangeSpec := { name := "fnExactFreeFaces", fn := fun _ => fun
  | [d] => { results := [.lit (.bool false)], args := [d] }
  | _ => none }
def FnExactFreeFacesWrongFalsely : Prop := fnExactFreeFacesRow.holds Try.pinned (OpenSpec.ofChange fnExactFreeFacesWrong)

/-- 'laws.FnExactNewFaces': WHATEVER THE INPUT: true; the input reads as it did. -/
def fnExactNewFacesSpec : ChangeSpec := { name := "fnExactNewFaces", fn := fun _ => fun
  | [d1, d2] => { results := [.lit (.bool true)], args := [d1, d2] }
  | _ => none }
def fnExactNewFacesRow : OpenClaim := { program := "ytedampaecopkhaa", sum := "4165e58f8064d5791def7a64d58e732eebf1f015d1157c99b1de58f79e24d98c", func := "loop.example/g03100/laws.FnExactNewFaces", spec := "fnExactNewFaces", apart := false }
def FnExactNewFacesSaid : Prop := fnExactNewFacesRow.holds Try.pinned (OpenSpec.ofChange fnExactNewFacesSpec)

/-- ITS FALSE NEIGHBOUR: 'it returns false'. Refute it at one input. -/
def fnExactNewFacesWrong : ChangeSpec := { name := "fnExactNewFaces", fn := fun _ => fun
  | [d1, d2] => { results := [.lit (.bool false)], args := [d1, d2] }
  | _ => none }
def FnExactNewFacesWrongFalsely : Prop := fnExactNewFacesRow.holds Try.pinned (OpenSpec.ofChange fnExactNewFacesWrong)

/-- 'laws.FnExactFindDivision': WHATEVER THE INPUT: true; the input reads as it did. -/
def fnExactFindDivisionSpec : ChangeSpec := { name := "fnExactFindDivision", fn := fun _ => fun
  | [d] => { results := [.lit (.bool true)], args := [d] }
  | _ => none }
def fnExactFindDivisionRow : OpenClaim := { program := "ytedampaecopkhaa", sum := "4165e58f8064d5791def7a64d58e732eebf1f015d1157c99b1de58f79e24d98c", func := "loop.example/g03100/laws.FnExactFindDivision", spec := "fnExactFindDivision", unfollowed := true, recurses := true, apart := false }
def FnExactFindDivisionSaid : Prop := fnExactFindDivisionRow.holds Try.pinned (OpenSpec.ofChange fnExactFindDivisionSpec)

/-- ITS FALSE NEIGHBOUR: 'it returns false'. Refute it at one input. -/
def fnExactFindDivisionWrong : ChangeSpec := { name := "fnExactFindDivision", fn := fun _ => fun
  | [d] => { results := [.lit (.bool false)], args := [d] }
  | _ => none }
def FnExactFindDivisionWrongFalsely : Prop := fnExactFindDivisionRow.holds Try.pinned (OpenSpec.ofChange fnExactFindDivisionWrong)

/-- 'laws.FnExactPointPairing': WHATEVER THE INPUT: true; the input reads as it did. -/
def fnExactPointPairingSpec : ChangeSpec := { name := "fnExactPointPairing", fn := fun _ => fun
  | [d] => { results := [.lit (.bool true)], args := [d] }
  | _ => none }
def fnExactPointPairingRow : OpenClaim := { program := "ytedampaecopkhaa", sum := "4165e58f8064d5791def7a64d58e732eebf1f015d1157c99b1de58f79e24d98c", func := "loop.example/g03100/laws.FnExactPointPairing", spec := "fnExactPointPairing", apart := false }
def FnExactPointPairingSaid : Prop := fnExactPointPairingRow.holds Try.pinned (OpenSpec.ofChange fnExactPointPairingSpec)

/-- ITS FALSE NEIGHBOUR: 'it returns false'. Refute it at one input. -/
def fnExactPointPairingWrong : ChangeSpec := { name := "fnExactPointPairing", fn := fun _ => fun
  | [d] => { results := [.lit (.bool false)], args := [d] }
  | _ => none }
def FnExactPointPairingWrongFalsely : Prop := fnExactPointPairingRow.holds Try.pinned (OpenSpec.ofChange fnExactPointPairingWrong)

/-- 'laws.FnExactRidgeCounts': WHATEVER THE INPUT: true; the input reads as it did. -/
def fnExactRidgeCountsSpec : ChangeSpec := { name := "fnExactRidgeCounts", fn := fun _ => fun
  | [d] => { results := [.lit (.bool true)], args := [d] }
  | _ => none }
def fnExactRidgeCountsRow : OpenClaim := { program := "ytedampaecopkhaa", sum := "4165e58f8064d5791def7a64d58e732eebf1f015d1157c99b1de58f79e24d98c", func := "loop.example/g03100/laws.FnExactRidgeCounts", spec := "fnExactRidgeCounts", apart := false }
def FnExactRidgeCountsSaid : Prop := fnExactRidgeCountsRow.holds Try.pinned (OpenSpec.ofChange fnExactRidgeCountsSpec)

/-- ITS FALSE NEIGHBOUR: 'it returns false'. Refute it at one input. -/
def fnExactRidgeCountsWrong : ChangeSpec := { name := "fnExactRidgeCounts", fn := fun _ => fun
  | [d] => { results := [.lit (.bool false)], args := [d] }
  | _ => none }
def FnExactRidgeCountsWrongFalsely : Prop := fnExactRidgeCountsRow.holds Try.pinned (OpenSpec.ofChange fnExactRidgeCountsWrong)

/-- 'laws.FnExactIsAcyclic': WHATEVER THE INPUT: true; the input reads as it did. -/
def fnExactIsAcyclicSpec : ChangeSpec := { name := "fnExactIsAcyclic", fn := fun _ => fun
  | [d1, d2] => { results := [.lit (.bool true)], args := [d1, d2] }
  | _ => none }
def fnExactIsAcyclicRow : OpenClaim := { program := "ytedampaecopkhaa", sum := "4165e58f8064d5791def7a64d58e732eebf1f015d1157c99b1de58f79e24d98c", func := "loop.example/g03100/laws.FnExactIsAcyclic", spec := "fnExactIsAcyclic", apart := false }
def FnExactIsAcyclicSaid : Prop := fnExactIsAcyclicRow.holds Try.pinned (OpenSpec.ofChange fnExactIsAcyclicSpec)

/-- ITS FALSE NEIGHBOUR: 'it returns false'. Refute it at one input. -/
def fnExactIsAcyclicWrong : ChangeSpec := { name := "fnExactIsAcyclic", fn := fun _ => fun
  | [d1, d2] => { results := [.lit (.bool false)], args := [d1, d2] }
  | _ => none }
def FnExactIsAcyclicWrongFalsely : Prop := fnExactIsAcyclicRow.holds Try.pinned (OpenSpec.ofChange fnExactIsAcyclicWrong)

/-- 'laws.FnExactDivisionCounts': WHATEVER THE INPUT: true; the input reads as it did. -/
def fnExactDivisionCountsSpec : ChangeSpec := { name := "fnExactDivisionCounts", fn := fun _ => fun
  | [d1, d2] => { results := [.lit (.bool true)], args := [d1, d2] }
  | _ => none }
def fnExactDivisionCountsRow : OpenClaim := { program := "ytedampaecopkhaa", sum := "4165e58f8064d5791def7a64d58e732eebf1f015d1157c99b1de58f79e24d98c", func := "loop.example/g03100/laws.FnExactDivisionCounts", spec := "fnExactDivisionCounts", unfollowed := true, recurses := true, apart := false }
def FnExactDivisionCountsSaid : Prop := fnExactDivisionCountsRow.holds Try.pinned (OpenSpec.ofChange fnExactDivisionCountsSpec)

/-- ITS FALSE NEIGHBOUR: 'it returns false'. Refute it at one input. -/
def fnExactDivisionCountsWrong : ChangeSpec := { name := "fnExactDivisionCounts", fn := fun _ => fun
  | [d1, d2] => { results := [.lit (.bool false)], args := [d1, d2] }
  | _ => none }
def FnExactDivisionCountsWrongFalsely : Prop := fnExactDivisionCountsRow.holds Try.pinned (OpenSpec.ofChange fnExactDivisionCountsWrong)

/-- 'laws.FnExactDivisionFrom': WHATEVER THE INPUT: true; the input reads as it did. -/
def fnExactDivisionFromSpec : ChangeSpec := { name := "fnExactDivisionFrom", fn := fun _ => fun
  | [d1, d2] => { results := [.lit (.bool true)], args := [d1, d2] }
  | _ => none }
def fnExactDivisionFromRow : OpenClaim := { program := "ytedampaecopkhaa", sum := "4165e58f8064d5791def7a64d58e732eebf1f015d1157c99b1de58f79e24d98c", func := "loop.example/g03100/laws.FnExactDivisionFrom", spec := "fnExactDivisionFrom", apart := false }
def FnExactDivisionFromSaid : Prop := fnExactDivisionFromRow.holds Try.pinned (OpenSpec.ofChange fnExactDivisionFromSpec)

/-- ITS FALSE NEIGHBOUR: 'it returns false'. Refute it at one input. -/
def fnExactDivisionFromWrong : ChangeSpec := { name := "fnExactDivisionFrom", fn := fun _ => fun
  | [d1, d2] => { results := [.lit (.bool false)], args := [d1, d2] }
  | _ => none }
def FnExactDivisionFromWrongFalsely : Prop := fnExactDivisionFromRow.holds Try.pinned (OpenSpec.ofChange fnExactDivisionFromWrong)

/-- 'laws.FnExactIsClosed': WHATEVER THE INPUT: true; the input reads as it did. -/
def fnExactIsClosedSpec : ChangeSpec := { name := "fnExactIsClosed", fn := fun _ => fun
  | [d] => { results := [.lit (.bool true)], args := [d] }
  | _ => none }
def fnExactIsClosedRow : OpenClaim := { program := "ytedampaecopkhaa", sum := "4165e58f8064d5791def7a64d58e732eebf1f015d1157c99b1de58f79e24d98c", func := "loop.example/g03100/laws.FnExactIsClosed", spec := "fnExactIsClosed", apart := false }
def FnExactIsClosedSaid : Prop := fnExactIsClosedRow.holds Try.pinned (OpenSpec.ofChange fnExactIsClosedSpec)

/-- ITS FALSE NEIGHBOUR: 'it returns false'. Refute it at one input. -/
def fnExactIsClosedWrong : ChangeSpec := { name := "fnExactIsClosed", fn := fun _ => fun
  | [d] => { results := [.lit (.bool false)], args := [d] }
  | _ => none }
def FnExactIsClosedWrongFalsely : Prop := fnExactIsClosedRow.holds Try.pinned (OpenSpec.ofChange fnExactIsClosedWrong)

/-- 'laws.FnExactIsShedding': WHATEVER THE INPUT: true; the input reads as it did. -/
def fnExactIsSheddingSpec : ChangeSpec := { name := "fnExactIsShedding", fn := fun _ => fun
  | [d1, d2] => { results := [.lit (.bool true)], args := [d1, d2] }
  | _ => none }
def fnExactIsSheddingRow : OpenClaim := { program := "ytedampaecopkhaa", sum := "4165e58f8064d5791def7a64d58e732eebf1f015d1157c99b1de58f79e24d98c", func := "loop.example/g03100/laws.FnExactIsShedding", spec := "fnExactIsShedding", unfollowed := true, recurses := true, apart := false }
def FnExactIsSheddingSaid : Prop := fnExactIsSheddingRow.holds Try.pinned (OpenSpec.ofChange fnExactIsSheddingSpec)

/-- ITS FALSE NEIGHBOUR: 'it returns false'. Refute it at one input. -/
def fnExactIsSheddingWrong : ChangeSpec := { name := "fnExactIsShedding", fn := fun _ => fun
  | [d1, d2] => { results := [.lit (.bool false)], args := [d1, d2] }
  | _ => none }
def FnExactIsSheddingWrongFalsely : Prop := fnExactIsSheddingRow.holds Try.pinned (OpenSpec.ofChange fnExactIsSheddingWrong)

/-- 'laws.FnExactUnpairedFaces': WHATEVER THE INPUT: true; the input reads as it did. -/
def fnExactUnpairedFacesSpec : ChangeSpec := { name := "fnExactUnpairedFaces", fn := fun _ => fun
  | [d1, d2] => { results := [.lit (.bool true)], args := [d1, d2] }
  | _ => none }
def fnExactUnpairedFacesRow : OpenClaim := { program := "ytedampaecopkhaa", sum := "4165e58f8064d5791def7a64d58e732eebf1f015d1157c99b1de58f79e24d98c", func := "loop.example/g03100/laws.FnExactUnpairedFaces", spec := "fnExactUnpairedFaces", apart := false }
def FnExactUnpairedFacesSaid : Prop := fnExactUnpairedFacesRow.holds Try.pinned (OpenSpec.ofChange fnExactUnpairedFacesSpec)

/-- ITS FALSE NEIGHBOUR: 'it returns false'. Refute it at one input. -/
def fnExactUnpairedFacesWrong : ChangeSpec := { name := "fnExactUnpairedFaces", fn := fun _ => fun
  | [d1, d2] => { results := [.lit (.bool false)], args := [d1, d2] }
  | _ => none }
def FnExactUnpairedFacesWrongFalsely : Prop := fnExactUnpairedFacesRow.holds Try.pinned (OpenSpec.ofChange fnExactUnpairedFacesWrong)

/- THE SECOND FORM. 'bulk': how many values and letters a reading holds, each counted each time it is reached (what is shared counts as often as it is met; a slice's spare places count too). A statement '..UptoSaid' is the law's where the arguments, and the package variables that the reading takes, are together of bulk at most 1048576: NARROWER than '..Said'. Prove '..Said' where nothing that the law and all that it calls make is longer than what came in: it says more and counts as full. Else prove '..UptoSaid'. A law counts once. -/
mutual
def uptoBulk {H : Type} : DataW H → Nat
  | .lit (.string bytes) => bytes.length + 1
  | .lit _ => 1
  | .nil => 1
  | .ptr d => uptoBulk d + 1
  | .slice elems spare => uptoBulkAll elems + uptoBulkAll spare + 1
  | .agg parts => uptoBulkAll parts + 1
  | .iface _ d => uptoBulk d + 1
  | .map entries => uptoBulkEntries entries + 1
  | .held _ => 1
def uptoBulkAll {H : Type} : List (DataW H) → Nat
  | [] => 0
  | d :: r => uptoBulk d + uptoBulkAll r
def uptoBulkEntries {H : Type} : List (Lit × DataW H) → Nat
  | [] => 0
  | x :: r => uptoBulkEntry x + uptoBulkEntries r
def uptoBulkEntry {H : Type} : Lit × DataW H → Nat
  | (.string bytes, d) => bytes.length + uptoBulk d + 1
  | (_, d) => uptoBulk d + 1
 end
def uptoSmall : (H : Type) → List (DataW H) → Bool := fun _ ds => decide (uptoBulkAll ds ≤ 1048576)
def OpenSpec.upto (s : _root_.Go.ChangeSpec) : _root_.Go.OpenSpec := { _root_.Go.OpenSpec.ofChange s with cond := some uptoSmall }

/-- 'laws.FnExactIsCollapsed', WHERE WHAT IT READS IS OF BULK AT MOST 1048576: true; the input reads as it did. -/
def fnExactIsCollapsedUptoRow : OpenClaim := { program := "ytedampaecopkhaa", sum := "4165e58f8064d5791def7a64d58e732eebf1f015d1157c99b1de58f79e24d98c", func := "loop.example/g03100/laws.FnExactIsCollapsed", spec := "fnExactIsCollapsed", apart := false, narrowed := true }
def FnExactIsCollapsedUptoSaid : Prop := fnExactIsCollapsedUptoRow.holds Try.pinned (OpenSpec.upto fnExactIsCollapsedSpec)

/-- 'laws.FnExactIsChain', WHERE WHAT IT READS IS OF BULK AT MOST 1048576: true; the input reads as it did. -/
def fnExactIsChainUptoRow : OpenClaim := { program := "ytedampaecopkhaa", sum := "4165e58f8064d5791def7a64d58e732eebf1f015d1157c99b1de58f79e24d98c", func := "loop.example/g03100/laws.FnExactIsChain", spec := "fnExactIsChain", apart := false, narrowed := true }
def FnExactIsChainUptoSaid : Prop := fnExactIsChainUptoRow.holds Try.pinned (OpenSpec.upto fnExactIsChainSpec)

/-- 'laws.FnExactFreeFaces', WHERE WHAT IT READS IS OF BULK AT MOST 1048576: true; the input reads as it did. -/
def fnExactFreeFacesUptoRow : OpenClaim := { program := "ytedampaecopkhaa", sum := "4165e58f8064d5791def7a64d58e732eebf1f015d1157c99b1de58f79e24d98c", func := "loop.example/g03100/laws.FnExactFreeFaces", spec := "fnExactFreeFaces", apart := false, narrowed := true }
def FnExactFreeFacesUptoSaid : Prop := fnExactFreeFacesUptoRow.holds Try.pinned (OpenSpec.upto fnExactFreeFacesSpec)

/-- 'laws.FnExactNewFaces', WHERE WHAT IT READS IS OF BULK AT MOST 1048576: true; the input reads as it did. -/
def fnExactNewFacesUptoRow : OpenClaim := { program := "ytedampaecopkhaa", sum := "4165e58f8064d5791def7a64d58e732eebf1f015d1157c99b1de58f79e24d98c", func := "loop.example/g03100/laws.FnExactNewFaces", spec := "fnExactNewFaces", apart := false, narrowed := true }
def FnExactNewFacesUptoSaid : Prop := fnExactNewFacesUptoRow.holds Try.pinned (OpenSpec.upto fnExactNewFacesSpec)

/-- 'laws.FnExactFindDivision', WHERE WHAT IT READS IS OF BULK AT MOST 1048576: true; the input reads as it did. -/
def fnExactFindDivisionUptoRow : OpenClaim := { program := "ytedampaecopkhaa", sum := "4165e58f8064d5791def7a64d58e732eebf1f015d1157c99b1de58f79e24d98c", func := "loop.example/g03100/laws.FnExactFindDivision", spec := "fnExactFindDivision", unfollowed := true, recurses := true, apart := false, narrowed := true }
def FnExactFindDivisionUptoSaid : Prop := fnExactFindDivisionUptoRow.holds Try.pinned (OpenSpec.upto fnExactFindDivisionSpec)

/-- 'laws.FnExactPointPairing', WHERE WHAT IT READS IS OF BULK AT MOST 1048576: true; the input reads as it did. -/
def fnExactPointPairingUptoRow : OpenClaim := { program := "ytedampaecopkhaa", sum := "4165e58f8064d5791def7a64d58e732eebf1f015d1157c99b1de58f79e24d98c", func := "loop.example/g03100/laws.FnExactPointPairing", spec := "fnExactPointPairing", apart := false, narrowed := true }
def FnExactPointPairingUptoSaid : Prop := fnExactPointPairingUptoRow.holds Try.pinned (OpenSpec.upto fnExactPointPairingSpec)

/-- 'laws.FnExactRidgeCounts', WHERE WHAT IT READS IS OF BULK AT MOST 1048576: true; the input reads as it did. -/
def fnExactRidgeCountsUptoRow : OpenClaim := { program := "ytedampaecopkhaa", sum := "4165e58f8064d5791def7a64d58e732eebf1f015d1157c99b1de58f79e24d98c", func := "loop.example/g03100/laws.FnExactRidgeCounts", spec := "fnExactRidgeCounts", apart := false, narrowed := true }
def FnExactRidgeCountsUptoSaid : Prop := fnExactRidgeCountsUptoRow.holds Try.pinned (OpenSpec.upto fnExactRidgeCountsSpec)

/-- 'laws.FnExactIsAcyclic', WHERE WHAT IT READS IS OF BULK AT MOST 1048576: true; the input reads as it did. -/
def fnExactIsAcyclicUptoRow : OpenClaim := { program := "ytedampaecopkhaa", sum := "4165e58f8064d5791def7a64d58e732eebf1f015d1157c99b1de58f79e24d98c", func := "loop.example/g03100/laws.FnExactIsAcyclic", spec := "fnExactIsAcyclic", apart := false, narrowed := true }
def FnExactIsAcyclicUptoSaid : Prop := fnExactIsAcyclicUptoRow.holds Try.pinned (OpenSpec.upto fnExactIsAcyclicSpec)

/-- 'laws.FnExactDivisionCounts', WHERE WHAT IT READS IS OF BULK AT MOST 1048576: true; the input reads as it did. -/
def fnExactDivisionCountsUptoRow : OpenClaim := { program := "ytedampaecopkhaa", sum := "4165e58f8064d5791def7a64d58e732eebf1f015d1157c99b1de58f79e24d98c", func := "loop.example/g03100/laws.FnExactDivisionCounts", spec := "fnExactDivisionCounts", unfollowed := true, recurses := true, apart := false, narrowed := true }
def FnExactDivisionCountsUptoSaid : Prop := fnExactDivisionCountsUptoRow.holds Try.pinned (OpenSpec.upto fnExactDivisionCountsSpec)

/-- 'laws.FnExactDivisionFrom', WHERE WHAT IT READS IS OF BULK AT MOST 1048576: true; the input reads as it did. -/
def fnExactDivisionFromUptoRow : OpenClaim := { program := "ytedampaecopkhaa", sum := "4165e58f8064d5791def7a64d58e732eebf1f015d1157c99b1de58f79e24d98c", func := "loop.example/g03100/laws.FnExactDivisionFrom", spec := "fnExactDivisionFrom", apart := false, narrowed := true }
def FnExactDivisionFromUptoSaid : Prop := fnExactDivisionFromUptoRow.holds Try.pinned (OpenSpec.upto fnExactDivisionFromSpec)

/-- 'laws.FnExactIsClosed', WHERE WHAT IT READS IS OF BULK AT MOST 1048576: true; the input reads as it did. -/
def fnExactIsClosedUptoRow : OpenClaim := { program := "ytedampaecopkhaa", sum := "4165e58f8064d5791def7a64d58e732eebf1f015d1157c99b1de58f79e24d98c", func := "loop.example/g03100/laws.FnExactIsClosed", spec := "fnExactIsClosed", apart := false, narrowed := true }
def FnExactIsClosedUptoSaid : Prop := fnExactIsClosedUptoRow.holds Try.pinned (OpenSpec.upto fnExactIsClosedSpec)

/-- 'laws.FnExactIsShedding', WHERE WHAT IT READS IS OF BULK AT MOST 1048576: true; the input reads as it did. -/
def fnExactIsSheddingUptoRow : OpenClaim := { program := "ytedampaecopkhaa", sum := "4165e58f8064d5791def7a64d58e732eebf1f015d1157c99b1de58f79e24d98c", func := "loop.example/g03100/laws.FnExactIsShedding", spec := "fnExactIsShedding", unfollowed := true, recurses := true, apart := false, narrowed := true }
def FnExactIsSheddingUptoSaid : Prop := fnExactIsSheddingUptoRow.holds Try.pinned (OpenSpec.upto fnExactIsSheddingSpec)

/-- 'laws.FnExactUnpairedFaces', WHERE WHAT IT READS IS OF BULK AT MOST 1048576: true; the input reads as it did. -/
def fnExactUnpairedFacesUptoRow : OpenClaim := { program := "ytedampaecopkhaa", sum := "4165e58f8064d5791def7a64d58e732eebf1f015d1157c99b1de58f79e24d98c", func := "loop.example/g03100/laws.FnExactUnpairedFaces", spec := "fnExactUnpairedFaces", apart := false, narrowed := true }
def FnExactUnpairedFacesUptoSaid : Prop := fnExactUnpairedFacesUptoRow.holds Try.pinned (OpenSpec.upto fnExactUnpairedFacesSpec)

end Rows
end Go.Proofs.Ytedampaecopkhaa
