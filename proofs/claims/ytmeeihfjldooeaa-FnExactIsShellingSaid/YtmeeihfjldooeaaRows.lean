/-
  No cell of these rows narrows 'for every input' (looked for: loops, veiled, ifaces, maps, wideKeys, modest, calm, conditions, laid).
  DERIVED. THE GIVEN ROWS OF THIS SEAT. 6 by the template 'for every input the law returns true; each argument reads behind the call as it read before'; 0 by the template 'total and deterministic' (their statements: YtmeeihfjldooeaaTotals.lean).
  GIVEN WITH THE SEED: the statements are not yours to turn. If you find one false, say at which input.
  Laid BY PROGRAM, IN A SANDBOX (cutbox-rows.mjs): the forced cells as the released guide's own fill.sh prints them over the translation ca9cc2a009915671… (all of the seat's roots in one cut). By AI agents, Wed Nov 11 2026. No macro, syntax, notation, axiom, sorry.
-/
import Derived.Test.YtmeeihfjldooeaaChecked
import GoSem.Claim
import GoSem.ClaimJoined
import GoSem.ClaimMapViews
import Derived.JoinedTies
import Derived.KernelRfl
namespace Go.Proofs.Ytmeeihfjldooeaa
/- THE CELL 'sum', in the pinned program and in every row, IS THE sha256 OF THE DUMP (.gsa) THAT YtmeeihfjldooeaaProg.lean LOADS. Nothing in Lean hashes anything: it is a label: what it is worth is what the hold of that sum in a sandbox is worth. -/
noncomputable def Try.pinned : Pinned := { name := "ytmeeihfjldooeaa", sum := "ca9cc2a009915671bb1c070410e5d55315569cbd896710a83f421620c559814a", checked := Try.checked }
namespace Rows
def none {H : Type} : Left H := { results := [], args := [] }

/-- 'laws.FnExactIsOrder': WHATEVER THE INPUT: true; the input reads as it did. -/
def fnExactIsOrderSpec : ChangeSpec := { name := "fnExactIsOrder", fn := fun _ => fun
  | [d1, d2] => { results := [.lit (.bool true)], args := [d1, d2] }
  | _ => none }
def fnExactIsOrderRow : OpenClaim := { program := "ytmeeihfjldooeaa", sum := "ca9cc2a009915671bb1c070410e5d55315569cbd896710a83f421620c559814a", func := "loop.example/g03100/laws.FnExactIsOrder", spec := "fnExactIsOrder", apart := false }
def FnExactIsOrderSaid : Prop := fnExactIsOrderRow.holds Try.pinned (OpenSpec.ofChange fnExactIsOrderSpec)

/-- ITS FALSE NEIGHBOUR: 'it returns false'. Refute it at one input. -/
def fnExactIsOrderWrong : ChangeSpec := { name := "fnExactIsOrder", fn := fun _ => fun
  | [d1, d2] => { results := [.lit (.bool false)], args := [d1, d2] }
  | _ => none }
def FnExactIsOrderWrongFalsely : Prop := fnExactIsOrderRow.holds Try.pinned (OpenSpec.ofChange fnExactIsOrderWrong)

/-- 'laws.FnExactIsChained': WHATEVER THE INPUT: true; the input reads as it did. -/
def fnExactIsChainedSpec : ChangeSpec := { name := "fnExactIsChained", fn := fun _ => fun
  | [d] => { results := [.lit (.bool true)], args := [d] }
  | _ => none }
def fnExactIsChainedRow : OpenClaim := { program := "ytmeeihfjldooeaa", sum := "ca9cc2a009915671bb1c070410e5d55315569cbd896710a83f421620c559814a", func := "loop.example/g03100/laws.FnExactIsChained", spec := "fnExactIsChained", apart := false }
def FnExactIsChainedSaid : Prop := fnExactIsChainedRow.holds Try.pinned (OpenSpec.ofChange fnExactIsChainedSpec)

/-- ITS FALSE NEIGHBOUR: 'it returns false'. Refute it at one input. -/
def fnExactIsChainedWrong : ChangeSpec := { name := "fnExactIsChained", fn := fun _ => fun
  | [d] => { results := [.lit (.bool false)], args := [d] }
  | _ => none }
def FnExactIsChainedWrongFalsely : Prop := fnExactIsChainedRow.holds Try.pinned (OpenSpec.ofChange fnExactIsChainedWrong)

/-- 'laws.FnExactCanExpand': WHATEVER THE INPUT: true; the input reads as it did. -/
def fnExactCanExpandSpec : ChangeSpec := { name := "fnExactCanExpand", fn := fun _ => fun
  | [d1, d2, d3] => { results := [.lit (.bool true)], args := [d1, d2, d3] }
  | _ => none }
def fnExactCanExpandRow : OpenClaim := { program := "ytmeeihfjldooeaa", sum := "ca9cc2a009915671bb1c070410e5d55315569cbd896710a83f421620c559814a", func := "loop.example/g03100/laws.FnExactCanExpand", spec := "fnExactCanExpand", apart := false }
def FnExactCanExpandSaid : Prop := fnExactCanExpandRow.holds Try.pinned (OpenSpec.ofChange fnExactCanExpandSpec)

/-- ITS FALSE NEIGHBOUR: 'it returns false'. Refute it at one input. -/
def fnExactCanExpandWrong : ChangeSpec := { name := "fnExactCanExpand", fn := fun _ => fun
  | [d1, d2, d3] => { results := [.lit (.bool false)], args := [d1, d2, d3] }
  | _ => none }
def FnExactCanExpandWrongFalsely : Prop := fnExactCanExpandRow.holds Try.pinned (OpenSpec.ofChange fnExactCanExpandWrong)

/-- 'laws.FnExactIsDivision': WHATEVER THE INPUT: true; the input reads as it did. -/
def fnExactIsDivisionSpec : ChangeSpec := { name := "fnExactIsDivision", fn := fun _ => fun
  | [d1, d2] => { results := [.lit (.bool true)], args := [d1, d2] }
  | _ => none }
def fnExactIsDivisionRow : OpenClaim := { program := "ytmeeihfjldooeaa", sum := "ca9cc2a009915671bb1c070410e5d55315569cbd896710a83f421620c559814a", func := "loop.example/g03100/laws.FnExactIsDivision", spec := "fnExactIsDivision", unfollowed := true, recurses := true, apart := false }
def FnExactIsDivisionSaid : Prop := fnExactIsDivisionRow.holds Try.pinned (OpenSpec.ofChange fnExactIsDivisionSpec)

/-- ITS FALSE NEIGHBOUR: 'it returns false'. Refute it at one input. -/
def fnExactIsDivisionWrong : ChangeSpec := { name := "fnExactIsDivision", fn := fun _ => fun
  | [d1, d2] => { results := [.lit (.bool false)], args := [d1, d2] }
  | _ => none }
def FnExactIsDivisionWrongFalsely : Prop := fnExactIsDivisionRow.holds Try.pinned (OpenSpec.ofChange fnExactIsDivisionWrong)

/-- 'laws.FnExactIsShelling': WHATEVER THE INPUT: true; the input reads as it did. -/
def fnExactIsShellingSpec : ChangeSpec := { name := "fnExactIsShelling", fn := fun _ => fun
  | [d1, d2] => { results := [.lit (.bool true)], args := [d1, d2] }
  | _ => none }
def fnExactIsShellingRow : OpenClaim := { program := "ytmeeihfjldooeaa", sum := "ca9cc2a009915671bb1c070410e5d55315569cbd896710a83f421620c559814a", func := "loop.example/g03100/laws.FnExactIsShelling", spec := "fnExactIsShelling", apart := false }
def FnExactIsShellingSaid : Prop := fnExactIsShellingRow.holds Try.pinned (OpenSpec.ofChange fnExactIsShellingSpec)

/-- ITS FALSE NEIGHBOUR: 'it returns false'. Refute it at one input. -/
def fnExactIsShellingWrong : ChangeSpec := { name := "fnExactIsShelling", fn := fun _ => fun
  | [d1, d2] => { results := [.lit (.bool false)], args := [d1, d2] }
  | _ => none }
def FnExactIsShellingWrongFalsely : Prop := fnExactIsShellingRow.holds Try.pinned (OpenSpec.ofChange fnExactIsShellingWrong)

/-- 'laws.FnExactIsPairing': WHATEVER THE INPUT: true; the input reads as it did. -/
def fnExactIsPairingSpec : ChangeSpec := { name := "fnExactIsPairing", fn := fun _ => fun
  | [d1, d2] => { results := [.lit (.bool true)], args := [d1, d2] }
  | _ => none }
def fnExactIsPairingRow : OpenClaim := { program := "ytmeeihfjldooeaa", sum := "ca9cc2a009915671bb1c070410e5d55315569cbd896710a83f421620c559814a", func := "loop.example/g03100/laws.FnExactIsPairing", spec := "fnExactIsPairing", apart := false }
def FnExactIsPairingSaid : Prop := fnExactIsPairingRow.holds Try.pinned (OpenSpec.ofChange fnExactIsPairingSpec)

/-- ITS FALSE NEIGHBOUR: 'it returns false'. Refute it at one input. -/
def fnExactIsPairingWrong : ChangeSpec := { name := "fnExactIsPairing", fn := fun _ => fun
  | [d1, d2] => { results := [.lit (.bool false)], args := [d1, d2] }
  | _ => none }
def FnExactIsPairingWrongFalsely : Prop := fnExactIsPairingRow.holds Try.pinned (OpenSpec.ofChange fnExactIsPairingWrong)

/- THE SECOND FORM. 'bulk': how many values and letters a reading holds, each counted each time it is reached (what is shared counts as often as it is met; a slice's spare places count too). A statement '..UptoSaid' is the law's where the arguments, and the package variables that the reading takes, are together of bulk at most 1048576: NARROWER than '..Said'. Prove '..Said' where nothing that the law and all that it calls make is longer than what came in: it says more and counts as full. Else prove '..UptoSaid'. A law counts once. -/
mutual
def uptoBulk {H : Type} : DataW H → Nat
  | .lit (.string bytes) => bytes.length + 1
  | .lit _ => 1
  | .nil => 1
  | .ptr d => uptoBulk d + 1
  | .slice elems spare => uptoBulkAll elems + uptoBulkAll spare + 1
  | .agg parts => uptoBulkAll parts + 1
  | .iface _ d => uptoBulk d + 1
  | .map entries => uptoBulkEntries entries + 1
  | .held _ => 1
def uptoBulkAll {H : Type} : List (DataW H) → Nat
  | [] => 0
  | d :: r => uptoBulk d + uptoBulkAll r
def uptoBulkEntries {H : Type} : List (Lit × DataW H) → Nat
  | [] => 0
  | x :: r => uptoBulkEntry x + uptoBulkEntries r
def uptoBulkEntry {H : Type} : Lit × DataW H → Nat
  | (.string bytes, d) => bytes.length + uptoBulk d + 1
  | (_, d) => uptoBulk d + 1
 end
def uptoSmall : (H : Type) → List (DataW H) → Bool := fun _ ds => decide (uptoBulkAll ds ≤ 1048576)
def OpenSpec.upto (s : _root_.Go.ChangeSpec) : _root_.Go.OpenSpec := { _root_.Go.OpenSpec.ofChange s with cond := some uptoSmall }

/-- 'laws.FnExactIsOrder', WHERE WHAT IT READS IS OF BULK AT MOST 1048576: true; the input reads as it did. -/
def fnExactIsOrderUptoRow : OpenClaim := { program := "ytmeeihfjldooeaa", sum := "ca9cc2a009915671bb1c070410e5d55315569cbd896710a83f421620c559814a", func := "loop.example/g03100/laws.FnExactIsOrder", spec := "fnExactIsOrder", apart := false, narrowed := true }
def FnExactIsOrderUptoSaid : Prop := fnExactIsOrderUptoRow.holds Try.pinned (OpenSpec.upto fnExactIsOrderSpec)

/-- 'laws.FnExactIsChained', WHERE WHAT IT READS IS OF BULK AT MOST 1048576: true; the input reads as it did. -/
def fnExactIsChainedUptoRow : OpenClaim := { program := "ytmeeihfjldooeaa", sum := "ca9cc2a009915671bb1c070410e5d55315569cbd896710a83f421620c559814a", func := "loop.example/g03100/laws.FnExactIsChained", spec := "fnExactIsChained", apart := false, narrowed := true }
def FnExactIsChainedUptoSaid : Prop := fnExactIsChainedUptoRow.holds Try.pinned (OpenSpec.upto fnExactIsChainedSpec)

/-- 'laws.FnExactCanExpand', WHERE WHAT IT READS IS OF BULK AT MOST 1048576: true; the input reads as it did. -/
def fnExactCanExpandUptoRow : OpenClaim := { program := "ytmeeihfjldooeaa", sum := "ca9cc2a009915671bb1c070410e5d55315569cbd896710a83f421620c559814a", func := "loop.example/g03100/laws.FnExactCanExpand", spec := "fnExactCanExpand", apart := false, narrowed := true }
def FnExactCanExpandUptoSaid : Prop := fnExactCanExpandUptoRow.holds Try.pinned (OpenSpec.upto fnExactCanExpandSpec)

/-- 'laws.FnExactIsDivision', WHERE WHAT IT READS IS OF BULK AT MOST 1048576: true; the input reads as it did. -/
def fnExactIsDivisionUptoRow : OpenClaim := { program := "ytmeeihfjldooeaa", sum := "ca9cc2a009915671bb1c070410e5d55315569cbd896710a83f421620c559814a", func := "loop.example/g03100/laws.FnExactIsDivision", spec := "fnExactIsDivision", unfollowed := true, recurses := true, apart := false, narrowed := true }
def FnExactIsDivisionUptoSaid : Prop := fnExactIsDivisionUptoRow.holds Try.pinned (OpenSpec.upto fnExactIsDivisionSpec)

/-- 'laws.FnExactIsShelling', WHERE WHAT IT READS IS OF BULK AT MOST 1048576: true; the input reads as it did. -/
def fnExactIsShellingUptoRow : OpenClaim := { program := "ytmeeihfjldooeaa", sum := "ca9cc2a009915671bb1c070410e5d55315569cbd896710a83f421620c559814a", func := "loop.example/g03100/laws.FnExactIsShelling", spec := "fnExactIsShelling", apart := false, narrowed := true }
def FnExactIsShellingUptoSaid : Prop := fnExactIsShellingUptoRow.holds Try.pinned (OpenSpec.upto fnExactIsShellingSpec)

/-- 'laws.FnExactIsPairing', WHERE WHAT IT READS IS OF BULK AT MOST 1048576: true; the input reads as it did. -/
def fnExactIsPairingUptoRow : OpenClaim := { program := "ytmeeihfjldooeaa", sum := "ca9cc2a009915671bb1c070410e5d55315569cbd896710a83f421620c559814a", func := "loop.example/g03100/laws.FnExactIsPairing", spec := "fnExactIsPairing", apart := false, narrowed := true }
def FnExactIsPairingUptoSaid : Prop := fnExactIsPairingUptoRow.holds Try.pinned (OpenSpec.upto fnExactIsPairingSpec)

end Rows
end Go.Proofs.Ytmeeihfjldooeaa
