/-
  No cell of these rows narrows 'for every input' (looked for: loops, veiled, ifaces, maps, wideKeys, modest, calm, conditions, laid).
  DERIVED. THE GIVEN ROWS OF THIS SEAT. 14 by the template 'for every input the law returns true; each argument reads behind the call as it read before'; 0 by the template 'total and deterministic' (their statements: YtkfjacclpjgafaaTotals.lean).
  GIVEN WITH THE SEED: the statements are not yours to turn. If you find one false, say at which input.
  Laid BY PROGRAM, IN A SANDBOX (cutbox-rows.mjs): the forced cells as the released guide's own fill.sh prints them over the translation 9f39f7ad4321ef54… (all of the seat's roots in one cut). By AI agents, Wed Nov 11 2026. No macro, syntax, notation, axiom, sorry.
-/
import Derived.Test.YtkfjacclpjgafaaChecked
import GoSem.Claim
import GoSem.ClaimJoined
import GoSem.ClaimMapViews
import Derived.JoinedTies
import Derived.KernelRfl
namespace Go.Proofs.Ytkfjacclpjgafaa
/- THE CELL 'sum', in the pinned program and in every row, IS THE sha256 OF THE DUMP (.gsa) THAT YtkfjacclpjgafaaProg.lean LOADS. Nothing in Lean hashes anything: it is a label: what it is worth is what the hold of that sum in a sandbox is worth. -/
noncomputable def Try.pinned : Pinned := { name := "ytkfjacclpjgafaa", sum := "9f39f7ad4321ef54e0a2cef0c65806ef03ee1bbc741a290add216442ef860170", checked := Try.checked }
namespace Rows
def none {H : Type} : Left H := { results := [], args := [] }

/-- 'laws.FnExactIsChain': WHATEVER THE INPUT: true; the input reads as it did. -/
def fnExactIsChainSpec : ChangeSpec := { name := "fnExactIsChain", fn := fun _ => fun
  | [d1, d2, d3, d4] => { results := [.lit (.bool true)], args := [d1, d2, d3, d4] }
  | _ => none }
def fnExactIsChainRow : OpenClaim := { program := "ytkfjacclpjgafaa", sum := "9f39f7ad4321ef54e0a2cef0c65806ef03ee1bbc741a290add216442ef860170", func := "loop.example/g03100/laws.FnExactIsChain", spec := "fnExactIsChain", apart := false }
def FnExactIsChainSaid : Prop := fnExactIsChainRow.holds Try.pinned (OpenSpec.ofChange fnExactIsChainSpec)

/-- ITS FALSE NEIGHBOUR: 'it returns false'. Refute it at one input. -/
def fnExactIsChainWrong : ChangeSpec := { name := "fnExactIsChain", fn := fun _ => fun
  | [d1, d2, d3, d4] => { results := [.lit (.bool false)], args := [d1, d2, d3, d4] }
  | _ => none }
def FnExactIsChainWrongFalsely : Prop := fnExactIsChainRow.holds Try.pinned (OpenSpec.ofChange fnExactIsChainWrong)

/-- 'laws.FnExactRidgeCounts': WHATEVER THE INPUT: true; the input reads as it did. -/
def fnExactRidgeCountsSpec : ChangeSpec := { name := "fnExactRidgeCounts", fn := fun _ => fun
  | [d] => { results := [.lit (.bool true)], args := [d] }
  | _ => none }
def fnExactRidgeCountsRow : OpenClaim := { program := "ytkfjacclpjgafaa", sum := "9f39f7ad4321ef54e0a2cef0c65806ef03ee1bbc741a290add216442ef860170", func := "loop.example/g03100/laws.FnExactRidgeCounts", spec := "fnExactRidgeCounts", apart := false }
def FnExactRidgeCountsSaid : Prop := fnExactRidgeCountsRow.holds Try.pinned (OpenSpec.ofChange fnExactRidgeCountsSpec)

/-- ITS FALSE NEIGHBOUR: 'it returns false'. Refute it at one input. -/
def fnExactRidgeCountsWrong : ChangeSpec := { name := "fnExactRidgeCounts", fn := fun _ => fun
  | [d] => { results := [.lit (.bool false)], args := [d] }
  | _ => none }
def FnExactRidgeCountsWrongFalsely : Prop := fnExactRidgeCountsRow.holds Try.pinned (OpenSpec.ofChange fnExactRidgeCountsWrong)

/-- 'laws.FnExactIsClosed': WHATEVER THE INPUT: true; the input reads as it did. -/
def fnExactIsClosedSpec : ChangeSpec := { name := "fnExactIsClosed", fn := fun _ => fun
  | [d] => { results := [.lit (.bool true)], args := [d] }
  | _ => none }
def fnExactIsClosedRow : OpenClaim := { program := "ytkfjacclpjgafaa", sum := "9f39f7ad4321ef54e0a2cef0c65806ef03ee1bbc741a290add216442ef860170", func := "loop.example/g03100/laws.FnExactIsClosed", spec := "fnExactIsClosed", apart := false }
def FnExactIsClosedSaid : Prop := fnExactIsClosedRow.holds Try.pinned (OpenSpec.ofChange fnExactIsClosedSpec)

/-- ITS FALSE NEIGHBOUR: 'it returns false'. Refute it at one input. -/
def fnExactIsClosedWrong : ChangeSpec := { name := "fnExactIsClosed", fn := fun _ => fun
  | [d] => { results := [.lit (.bool false)], args := [d] }
  | _ => none }
def FnExactIsClosedWrongFalsely : Prop := fnExactIsClosedRow.holds Try.pinned (OpenSpec.ofChange fnExactIsClosedWrong)

/-- 'laws.FnExactCollapseAt': WHATEVER THE INPUT: true; the input reads as it did. -/
def fnExactCollapseAtSpec : ChangeSpec := { name := "fnExactCollapseAt", fn := fun _ => fun
  | [d1, d2] => { results := [.lit (.bool true)], args := [d1, d2] }
  | _ => none }
def fnExactCollapseAtRow : OpenClaim := { program := "ytkfjacclpjgafaa", sum := "9f39f7ad4321ef54e0a2cef0c65806ef03ee1bbc741a290add216442ef860170", func := "loop.example/g03100/laws.FnExactCollapseAt", spec := "fnExactCollapseAt", apart := false }
def FnExactCollapseAtSaid : Prop := fnExactCollapseAtRow.holds Try.pinned (OpenSpec.ofChange fnExactCollapseAtSpec)

/-- ITS FALSE NEIGHBOUR: 'it returns false'. Refute it at one input. -/
def fnExactCollapseAtWrong : ChangeSpec := { name := "fnExactCollapseAt", fn := fun _ => fun
  | [d1, d2] => { results := [.lit (.bool false)], args := [d1, d2] }
  | _ => none }
def FnExactCollapseAtWrongFalsely : Prop := fnExactCollapseAtRow.holds Try.pinned (OpenSpec.ofChange fnExactCollapseAtWrong)

/-- 'laws.FnExactShellingCounts': WHATEVER THE INPUT: true; the input reads as it did. -/
def fnExactShellingCountsSpec : ChangeSpec := { name := "fnExactShellingCounts", fn := fun _ => fun
  | [d1, d2] => { results := [.lit (.bool true)], args := [d1, d2] }
  | _ => none }
def fnExactShellingCountsRow : OpenClaim := { program := "ytkfjacclpjgafaa", sum := "9f39f7ad4321ef54e0a2cef0c65806ef03ee1bbc741a290add216442ef860170", func := "loop.example/g03100/laws.FnExactShellingCounts", spec := "fnExactShellingCounts", apart := false }
def FnExactShellingCountsSaid : Prop := fnExactShellingCountsRow.holds Try.pinned (OpenSpec.ofChange fnExactShellingCountsSpec)

/-- ITS FALSE NEIGHBOUR: 'it returns false'. Refute it at one input. -/
def fnExactShellingCountsWrong : ChangeSpec := { name := "fnExactShellingCounts", fn := fun _ => fun
  | [d1, d2] => { results := [.lit (.bool false)], args := [d1, d2] }
  | _ => none }
def FnExactShellingCountsWrongFalsely : Prop := fnExactShellingCountsRow.holds Try.pinned (OpenSpec.ofChange fnExactShellingCountsWrong)

/-- 'laws.FnExactFirstShedding': WHATEVER THE INPUT: true; the input reads as it did. -/
def fnExactFirstSheddingSpec : ChangeSpec := { name := "fnExactFirstShedding", fn := fun _ => fun
  | [d] => { results := [.lit (.bool true)], args := [d] }
  | _ => none }
def fnExactFirstSheddingRow : OpenClaim := { program := "ytkfjacclpjgafaa", sum := "9f39f7ad4321ef54e0a2cef0c65806ef03ee1bbc741a290add216442ef860170", func := "loop.example/g03100/laws.FnExactFirstShedding", spec := "fnExactFirstShedding", unfollowed := true, recurses := true, apart := false }
def FnExactFirstSheddingSaid : Prop := fnExactFirstSheddingRow.holds Try.pinned (OpenSpec.ofChange fnExactFirstSheddingSpec)

/-- ITS FALSE NEIGHBOUR: 'it returns false'. Refute it at one input. -/
def fnExactFirstSheddingWrong : ChangeSpec := { name := "fnExactFirstShedding", fn := fun _ => fun
  | [d] => { results := [.lit (.bool false)], args := [d] }
  | _ => none }
def FnExactFirstSheddingWrongFalsely : Prop := fnExactFirstSheddingRow.holds Try.pinned (OpenSpec.ofChange fnExactFirstSheddingWrong)

/-- 'laws.FnExactCollapseAll': WHATEVER THE INPUT: true; the input reads as it did. -/
def fnExactCollapseAllSpec : ChangeSpec := { name := "fnExactCollapseAll", fn := fun _ => fun
  | [d] => { results := [.lit (.bool true)], args := [d] }
  | _ => none }
def fnExactCollapseAllRow : OpenClaim := { program := "ytkfjacclpjgafaa", sum := "9f39f7ad4321ef54e0a2cef0c65806ef03ee1bbc741a290add216442ef860170", func := "loop.example/g03100/laws.FnExactCollapseAll", spec := "fnExactCollapseAll", apart := false }
def FnExactCollapseAllSaid : Prop := fnExactCollapseAllRow.holds Try.pinned (OpenSpec.ofChange fnExactCollapseAllSpec)

/-- ITS FALSE NEIGHBOUR: 'it returns false'. Refute it at one input. -/
def fnExactCollapseAllWrong : ChangeSpec := { name := "fnExactCollapseAll", fn := fun _ => fun
  | [d] => { results := [.lit (.bool false)], args := [d] }
  | _ => none }
def FnExactCollapseAllWrongFalsely : Prop := fnExactCollapseAllRow.holds Try.pinned (OpenSpec.ofChange fnExactCollapseAllWrong)

/-- 'laws.FnExactIsDecomposable': WHATEVER THE INPUT: true; the input reads as it did. -/
def fnExactIsDecomposableSpec : ChangeSpec := { name := "fnExactIsDecomposable", fn := fun _ => fun
  | [d] => { results := [.lit (.bool true)], args := [d] }
  | _ => none }
def fnExactIsDecomposableRow : OpenClaim := { program := "ytkfjacclpjgafaa", sum := "9f39f7ad4321ef54e0a2cef0c65806ef03ee1bbc741a290add216442ef860170", func := "loop.example/g03100/laws.FnExactIsDecomposable", spec := "fnExactIsDecomposable", unfollowed := true, recurses := true, apart := false }
def FnExactIsDecomposableSaid : Prop := fnExactIsDecomposableRow.holds Try.pinned (OpenSpec.ofChange fnExactIsDecomposableSpec)

/-- ITS FALSE NEIGHBOUR: 'it returns false'. Refute it at one input. -/
def fnExactIsDecomposableWrong : ChangeSpec := { name := "fnExactIsDecomposable", fn := fun _ => fun
  | [d] => { results := [.lit (.bool false)], args := [d] }
  | _ => none }
def FnExactIsDecomposableWrongFalsely : Prop := fnExactIsDecomposableRow.holds Try.pinned (OpenSpec.ofChange fnExactIsDecomposableWrong)

/-- 'laws.FnExactBorderOfChain': WHATEVER THE INPUT: true; the input reads as it did. -/
def fnExactBorderOfChainSpec : ChangeSpec := { name := "fnExactBorderOfChain", fn := fun _ => fun
  | [d1, d2, d3, d4] => { results := [.lit (.bool true)], args := [d1, d2, d3, d4] }
  | _ => none }
def fnExactBorderOfChainRow : OpenClaim := { program := "ytkfjacclpjgafaa", sum := "9f39f7ad4321ef54e0a2cef0c65806ef03ee1bbc741a290add216442ef860170", func := "loop.example/g03100/laws.FnExactBorderOfChain", spec := "fnExactBorderOfChain", apart := false }
def FnExactBorderOfChainSaid : Prop := fnExactBorderOfChainRow.holds Try.pinned (OpenSpec.ofChange fnExactBorderOfChainSpec)

/-- ITS FALSE NEIGHBOUR: 'it returns false'. Refute it at one input. -/
def fnExactBorderOfChainWrong : ChangeSpec := { name := "fnExactBorderOfChain", fn := fun _ => fun
  | [d1, d2, d3, d4] => { results := [.lit (.bool false)], args := [d1, d2, d3, d4] }
  | _ => none }
def FnExactBorderOfChainWrongFalsely : Prop := fnExactBorderOfChainRow.holds Try.pinned (OpenSpec.ofChange fnExactBorderOfChainWrong)

/-- 'laws.FnExactUnpairedCounts': WHATEVER THE INPUT: true; the input reads as it did. -/
def fnExactUnpairedCountsSpec : ChangeSpec := { name := "fnExactUnpairedCounts", fn := fun _ => fun
  | [d1, d2] => { results := [.lit (.bool true)], args := [d1, d2] }
  | _ => none }
def fnExactUnpairedCountsRow : OpenClaim := { program := "ytkfjacclpjgafaa", sum := "9f39f7ad4321ef54e0a2cef0c65806ef03ee1bbc741a290add216442ef860170", func := "loop.example/g03100/laws.FnExactUnpairedCounts", spec := "fnExactUnpairedCounts", apart := false }
def FnExactUnpairedCountsSaid : Prop := fnExactUnpairedCountsRow.holds Try.pinned (OpenSpec.ofChange fnExactUnpairedCountsSpec)

/-- ITS FALSE NEIGHBOUR: 'it returns false'. Refute it at one input. -/
def fnExactUnpairedCountsWrong : ChangeSpec := { name := "fnExactUnpairedCounts", fn := fun _ => fun
  | [d1, d2] => { results := [.lit (.bool false)], args := [d1, d2] }
  | _ => none }
def FnExactUnpairedCountsWrongFalsely : Prop := fnExactUnpairedCountsRow.holds Try.pinned (OpenSpec.ofChange fnExactUnpairedCountsWrong)

/-- 'laws.FnExactIsCycle': WHATEVER THE INPUT: true; the input reads as it did. -/
def fnExactIsCycleSpec : ChangeSpec := { name := "fnExactIsCycle", fn := fun _ => fun
  | [d1, d2, d3, d4] => { results := [.lit (.bool true)], args := [d1, d2, d3, d4] }
  | _ => none }
def fnExactIsCycleRow : OpenClaim := { program := "ytkfjacclpjgafaa", sum := "9f39f7ad4321ef54e0a2cef0c65806ef03ee1bbc741a290add216442ef860170", func := "loop.example/g03100/laws.FnExactIsCycle", spec := "fnExactIsCycle", apart := false }
def FnExactIsCycleSaid : Prop := fnExactIsCycleRow.holds Try.pinned (OpenSpec.ofChange fnExactIsCycleSpec)

/-- ITS FALSE NEIGHBOUR: 'it returns false'. Refute it at one input. -/
def fnExactIsCycleWrong : ChangeSpec := { name := "fnExactIsCycle", fn := fun _ => fun
  | [d1, d2, d3, d4] => { results := [.lit (.bool false)], args := [d1, d2, d3, d4] }
  | _ => none }
def FnExactIsCycleWrongFalsely : Prop := fnExactIsCycleRow.holds Try.pinned (OpenSpec.ofChange fnExactIsCycleWrong)

/-- 'laws.FnExactEdgeComplex': WHATEVER THE INPUT: true; the input reads as it did. -/
def fnExactEdgeComplexSpec : ChangeSpec := { name := "fnExactEdgeComplex", fn := fun _ => fun
  | [d] => { results := [.lit (.bool true)], args := [d] }
  | _ => none }
def fnExactEdgeComplexRow : OpenClaim := { program := "ytkfjacclpjgafaa", sum := "9f39f7ad4321ef54e0a2cef0c65806ef03ee1bbc741a290add216442ef860170", func := "loop.example/g03100/laws.FnExactEdgeComplex", spec := "fnExactEdgeComplex", apart := false }
def FnExactEdgeComplexSaid : Prop := fnExactEdgeComplexRow.holds Try.pinned (OpenSpec.ofChange fnExactEdgeComplexSpec)

/-- ITS FALSE NEIGHBOUR: 'it returns false'. Refute it at one input. -/
def fnExactEdgeComplexWrong : ChangeSpec := { name := "fnExactEdgeComplex", fn := fun _ => fun
  | [d] => { results := [.lit (.bool false)], args := [d] }
  | _ => none }
def FnExactEdgeComplexWrongFalsely : Prop := fnExactEdgeComplexRow.holds Try.pinned (OpenSpec.ofChange fnExactEdgeComplexWrong)

/-- 'laws.FnExactFillChain': WHATEVER THE INPUT: true; the input reads as it did. -/
def fnExactFillChainSpec : ChangeSpec := { name := "fnExactFillChain", fn := fun _ => fun
  | [d1, d2, d3, d4] => { results := [.lit (.bool true)], args := [d1, d2, d3, d4] }
  | _ => none }
def fnExactFillChainRow : OpenClaim := { program := "ytkfjacclpjgafaa", sum := "9f39f7ad4321ef54e0a2cef0c65806ef03ee1bbc741a290add216442ef860170", func := "loop.example/g03100/laws.FnExactFillChain", spec := "fnExactFillChain", apart := false }
def FnExactFillChainSaid : Prop := fnExactFillChainRow.holds Try.pinned (OpenSpec.ofChange fnExactFillChainSpec)

/-- ITS FALSE NEIGHBOUR: 'it returns false'. Refute it at one input. -/
def fnExactFillChainWrong : ChangeSpec := { name := "fnExactFillChain", fn := fun _ => fun
  | [d1, d2, d3, d4] => { results := [.lit (.bool false)], args := [d1, d2, d3, d4] }
  | _ => none }
def FnExactFillChainWrongFalsely : Prop := fnExactFillChainRow.holds Try.pinned (OpenSpec.ofChange fnExactFillChainWrong)

/-- 'laws.FnExactIsSurface': WHATEVER THE INPUT: true; the input reads as it did. -/
def fnExactIsSurfaceSpec : ChangeSpec := { name := "fnExactIsSurface", fn := fun _ => fun
  | [d] => { results := [.lit (.bool true)], args := [d] }
  | _ => none }
def fnExactIsSurfaceRow : OpenClaim := { program := "ytkfjacclpjgafaa", sum := "9f39f7ad4321ef54e0a2cef0c65806ef03ee1bbc741a290add216442ef860170", func := "loop.example/g03100/laws.FnExactIsSurface", spec := "fnExactIsSurface", unfollowed := true, recurses := true, apart := false }
def FnExactIsSurfaceSaid : Prop := fnExactIsSurfaceRow.holds Try.pinned (OpenSpec.ofChange fnExactIsSurfaceSpec)

/-- ITS FALSE NEIGHBOUR: 'it returns false'. Refute it at one input. -/
def fnExactIsSurfaceWrong : ChangeSpec := { name := "fnExactIsSurface", fn := fun _ => fun
  | [d] => { results := [.lit (.bool false)], args := [d] }
  | _ => none }
def FnExactIsSurfaceWrongFalsely : Prop := fnExactIsSurfaceRow.holds Try.pinned (OpenSpec.ofChange fnExactIsSurfaceWrong)

/- THE SECOND FORM. 'bulk': how many values and letters a reading holds, each counted each time it is reached (what is shared counts as often as it is met; a slice's spare places count too). A statement '..UptoSaid' is the law's where the arguments, and the package variables that the reading takes, are together of bulk at most 1048576: NARROWER than '..Said'. Prove '..Said' where nothing that the law and all that it calls make is longer than what came in: it says more and counts as full. Else prove '..UptoSaid'. A law counts once. -/
mutual
def uptoBulk {H : Type} : DataW H → Nat
  | .lit (.string bytes) => bytes.length + 1
  | .lit _ => 1
  | .nil => 1
  | .ptr d => uptoBulk d + 1
  | .slice elems spare => uptoBulkAll elems + uptoBulkAll spare + 1
  | .agg parts => uptoBulkAll parts + 1
  | .iface _ d => uptoBulk d + 1
  | .map entries => uptoBulkEntries entries + 1
  | .held _ => 1
def uptoBulkAll {H : Type} : List (DataW H) → Nat
  | [] => 0
  | d :: r => uptoBulk d + uptoBulkAll r
def uptoBulkEntries {H : Type} : List (Lit × DataW H) → Nat
  | [] => 0
  | x :: r => uptoBulkEntry x + uptoBulkEntries r
def uptoBulkEntry {H : Type} : Lit × DataW H → Nat
  | (.string bytes, d) => bytes.length + uptoBulk d + 1
  | (_, d) => uptoBulk d + 1
 end
def uptoSmall : (H : Type) → List (DataW H) → Bool := fun _ ds => decide (uptoBulkAll ds ≤ 1048576)
def OpenSpec.upto (s : _root_.Go.ChangeSpec) : _root_.Go.OpenSpec := { _root_.Go.OpenSpec.ofChange s with cond := some uptoSmall }

/-- 'laws.FnExactIsChain', WHERE WHAT IT READS IS OF BULK AT MOST 1048576: true; the input reads as it did. -/
def fnExactIsChainUptoRow : OpenClaim := { program := "ytkfjacclpjgafaa", sum := "9f39f7ad4321ef54e0a2cef0c65806ef03ee1bbc741a290add216442ef860170", func := "loop.example/g03100/laws.FnExactIsChain", spec := "fnExactIsChain", apart := false, narrowed := true }
def FnExactIsChainUptoSaid : Prop := fnExactIsChainUptoRow.holds Try.pinned (OpenSpec.upto fnExactIsChainSpec)

/-- 'laws.FnExactRidgeCounts', WHERE WHAT IT READS IS OF BULK AT MOST 1048576: true; the input reads as it did. -/
def fnExactRidgeCountsUptoRow : OpenClaim := { program := "ytkfjacclpjgafaa", sum := "9f39f7ad4321ef54e0a2cef0c65806ef03ee1bbc741a290add216442ef860170", func := "loop.example/g03100/laws.FnExactRidgeCounts", spec := "fnExactRidgeCounts", apart := false, narrowed := true }
def FnExactRidgeCountsUptoSaid : Prop := fnExactRidgeCountsUptoRow.holds Try.pinned (OpenSpec.upto fnExactRidgeCountsSpec)

/-- 'laws.FnExactIsClosed', WHERE WHAT IT READS IS OF BULK AT MOST 1048576: true; the input reads as it did. -/
def fnExactIsClosedUptoRow : OpenClaim := { program := "ytkfjacclpjgafaa", sum := "9f39f7ad4321ef54e0a2cef0c65806ef03ee1bbc741a290add216442ef860170", func := "loop.example/g03100/laws.FnExactIsClosed", spec := "fnExactIsClosed", apart := false, narrowed := true }
def FnExactIsClosedUptoSaid : Prop := fnExactIsClosedUptoRow.holds Try.pinned (OpenSpec.upto fnExactIsClosedSpec)

/-- 'laws.FnExactCollapseAt', WHERE WHAT IT READS IS OF BULK AT MOST 1048576: true; the input reads as it did. -/
def fnExactCollapseAtUptoRow : OpenClaim := { program := "ytkfjacclpjgafaa", sum := "9f39f7ad4321ef54e0a2cef0c65806ef03ee1bbc741a290add216442ef860170", func := "loop.example/g03100/laws.FnExactCollapseAt", spec := "fnExactCollapseAt", apart := false, narrowed := true }
def FnExactCollapseAtUptoSaid : Prop := fnExactCollapseAtUptoRow.holds Try.pinned (OpenSpec.upto fnExactCollapseAtSpec)

/-- 'laws.FnExactShellingCounts', WHERE WHAT IT READS IS OF BULK AT MOST 1048576: true; the input reads as it did. -/
def fnExactShellingCountsUptoRow : OpenClaim := { program := "ytkfjacclpjgafaa", sum := "9f39f7ad4321ef54e0a2cef0c65806ef03ee1bbc741a290add216442ef860170", func := "loop.example/g03100/laws.FnExactShellingCounts", spec := "fnExactShellingCounts", apart := false, narrowed := true }
def FnExactShellingCountsUptoSaid : Prop := fnExactShellingCountsUptoRow.holds Try.pinned (OpenSpec.upto fnExactShellingCountsSpec)

/-- 'laws.FnExactFirstShedding', WHERE WHAT IT READS IS OF BULK AT MOST 1048576: true; the input reads as it did. -/
def fnExactFirstSheddingUptoRow : OpenClaim := { program := "ytkfjacclpjgafaa", sum := "9f39f7ad4321ef54e0a2cef0c65806ef03ee1bbc741a290add216442ef860170", func := "loop.example/g03100/laws.FnExactFirstShedding", spec := "fnExactFirstShedding", unfollowed := true, recurses := true, apart := false, narrowed := true }
def FnExactFirstSheddingUptoSaid : Prop := fnExactFirstSheddingUptoRow.holds Try.pinned (OpenSpec.upto fnExactFirstSheddingSpec)

/-- 'laws.FnExactCollapseAll', WHERE WHAT IT READS IS OF BULK AT MOST 1048576: true; the input reads as it did. -/
def fnExactCollapseAllUptoRow : OpenClaim := { program := "ytkfjacclpjgafaa", sum := "9f39f7ad4321ef54e0a2cef0c65806ef03ee1bbc741a290add216442ef860170", func := "loop.example/g03100/laws.FnExactCollapseAll", spec := "fnExactCollapseAll", apart := false, narrowed := true }
def FnExactCollapseAllUptoSaid : Prop := fnExactCollapseAllUptoRow.holds Try.pinned (OpenSpec.upto fnExactCollapseAllSpec)

/-- 'laws.FnExactIsDecomposable', WHERE WHAT IT READS IS OF BULK AT MOST 1048576: true; the input reads as it did. -/
def fnExactIsDecomposableUptoRow : OpenClaim := { program := "ytkfjacclpjgafaa", sum := "9f39f7ad4321ef54e0a2cef0c65806ef03ee1bbc741a290add216442ef860170", func := "loop.example/g03100/laws.FnExactIsDecomposable", spec := "fnExactIsDecomposable", unfollowed := true, recurses := true, apart := false, narrowed := true }
def FnExactIsDecomposableUptoSaid : Prop := fnExactIsDecomposableUptoRow.holds Try.pinned (OpenSpec.upto fnExactIsDecomposableSpec)

/-- 'laws.FnExactBorderOfChain', WHERE WHAT IT READS IS OF BULK AT MOST 1048576: true; the input reads as it did. -/
def fnExactBorderOfChainUptoRow : OpenClaim := { program := "ytkfjacclpjgafaa", sum := "9f39f7ad4321ef54e0a2cef0c65806ef03ee1bbc741a290add216442ef860170", func := "loop.example/g03100/laws.FnExactBorderOfChain", spec := "fnExactBorderOfChain", apart := false, narrowed := true }
def FnExactBorderOfChainUptoSaid : Prop := fnExactBorderOfChainUptoRow.holds Try.pinned (OpenSpec.upto fnExactBorderOfChainSpec)

/-- 'laws.FnExactUnpairedCounts', WHERE WHAT IT READS IS OF BULK AT MOST 1048576: true; the input reads as it did. -/
def fnExactUnpairedCountsUptoRow : OpenClaim := { program := "ytkfjacclpjgafaa", sum := "9f39f7ad4321ef54e0a2cef0c65806ef03ee1bbc741a290add216442ef860170", func := "loop.example/g03100/laws.FnExactUnpairedCounts", spec := "fnExactUnpairedCounts", apart := false, narrowed := true }
def FnExactUnpairedCountsUptoSaid : Prop := fnExactUnpairedCountsUptoRow.holds Try.pinned (OpenSpec.upto fnExactUnpairedCountsSpec)

/-- 'laws.FnExactIsCycle', WHERE WHAT IT READS IS OF BULK AT MOST 1048576: true; the input reads as it did. -/
def fnExactIsCycleUptoRow : OpenClaim := { program := "ytkfjacclpjgafaa", sum := "9f39f7ad4321ef54e0a2cef0c65806ef03ee1bbc741a290add216442ef860170", func := "loop.example/g03100/laws.FnExactIsCycle", spec := "fnExactIsCycle", apart := false, narrowed := true }
def FnExactIsCycleUptoSaid : Prop := fnExactIsCycleUptoRow.holds Try.pinned (OpenSpec.upto fnExactIsCycleSpec)

/-- 'laws.FnExactEdgeComplex', WHERE WHAT IT READS IS OF BULK AT MOST 1048576: true; the input reads as it did. -/
def fnExactEdgeComplexUptoRow : OpenClaim := { program := "ytkfjacclpjgafaa", sum := "9f39f7ad4321ef54e0a2cef0c65806ef03ee1bbc741a290add216442ef860170", func := "loop.example/g03100/laws.FnExactEdgeComplex", spec := "fnExactEdgeComplex", apart := false, narrowed := true }
def FnExactEdgeComplexUptoSaid : Prop := fnExactEdgeComplexUptoRow.holds Try.pinned (OpenSpec.upto fnExactEdgeComplexSpec)

/-- 'laws.FnExactFillChain', WHERE WHAT IT READS IS OF BULK AT MOST 1048576: true; the input reads as it did. -/
def fnExactFillChainUptoRow : OpenClaim := { program := "ytkfjacclpjgafaa", sum := "9f39f7ad4321ef54e0a2cef0c65806ef03ee1bbc741a290add216442ef860170", func := "loop.example/g03100/laws.FnExactFillChain", spec := "fnExactFillChain", apart := false, narrowed := true }
def FnExactFillChainUptoSaid : Prop := fnExactFillChainUptoRow.holds Try.pinned (OpenSpec.upto fnExactFillChainSpec)

/-- 'laws.FnExactIsSurface', WHERE WHAT IT READS IS OF BULK AT MOST 1048576: true; the input reads as it did. -/
def fnExactIsSurfaceUptoRow : OpenClaim := { program := "ytkfjacclpjgafaa", sum := "9f39f7ad4321ef54e0a2cef0c65806ef03ee1bbc741a290add216442ef860170", func := "loop.example/g03100/laws.FnExactIsSurface", spec := "fnExactIsSurface", unfollowed := true, recurses := true, apart := false, narrowed := true }
def FnExactIsSurfaceUptoSaid : Prop := fnExactIsSurfaceUptoRow.holds Try.pinned (OpenSpec.upto fnExactIsSurfaceSpec)

end Rows
end Go.Proofs.Ytkfjacclpjgafaa
