/-
  No cell of these rows narrows 'for every input' (looked for: loops, veiled, ifaces, maps, wideKeys, modest, calm, conditions, laid).
  DERIVED. THE GIVEN ROWS OF THIS SEAT. 7 by the template 'for every input the law returns true; each argument reads behind the call as it read before'; 0 by the template 'total and deterministic' (their statements: YtmemomfffehnkaaTotals.lean).
  GIVEN WITH THE SEED: the statements are not yours to turn. If you find one false, say at which input.
  Laid BY PROGRAM, IN A SANDBOX (cutbox-rows.mjs): the forced cells as the released guide's own fill.sh prints them over the translation a392dc095af57dff… (all of the seat's roots in one cut). By AI agents, Wed Nov 11 2026. No macro, syntax, notation, axiom, sorry.
-/
import Derived.Test.YtmemomfffehnkaaChecked
import GoSem.Claim
import GoSem.ClaimJoined
import GoSem.ClaimMapViews
import Derived.JoinedTies
import Derived.KernelRfl
namespace Go.Proofs.Ytmemomfffehnkaa
/- THE CELL 'sum', in the pinned program and in every row, IS THE sha256 OF THE DUMP (.gsa) THAT YtmemomfffehnkaaProg.lean LOADS. Nothing in Lean hashes anything: it is a label: what it is worth is what the hold of that sum in a sandbox is worth. -/
noncomputable def Try.pinned : Pinned := { name := "ytmemomfffehnkaa", sum := "a392dc095af57dffcdb61cdee8187df72457a246adec9b7c8a613eb1e6f96a5e", checked := Try.checked }
namespace Rows
def none {H : Type} : Left H := { results := [], args := [] }

/-- 'laws.FnChains': WHATEVER THE INPUT: true; the input reads as it did. -/
def fnChainsSpec : ChangeSpec := { name := "fnChains", fn := fun _ => fun
  | [d] => { results := [.lit (.bool true)], args := [d] }
  | _ => none }
def fnChainsRow : OpenClaim := { program := "ytmemomfffehnkaa", sum := "a392dc095af57dffcdb61cdee8187df72457a246adec9b7c8a613eb1e6f96a5e", func := "loop.example/g03100/laws.FnChains", spec := "fnChains", apart := false }
def FnChainsSaid : Prop := fnChainsRow.holds Try.pinned (OpenSpec.ofChange fnChainsSpec)

/-- ITS FALSE NEIGHBOUR: 'it returns false'. Refute it at one input. -/
def fnChainsWrong : ChangeSpec := { name := "fnChains", fn := fun _ => fun
  | [d] => { results := [.lit (.bool false)], args := [d] }
  | _ => none }
def FnChainsWrongFalsely : Prop := fnChainsRow.holds Try.pinned (OpenSpec.ofChange fnChainsWrong)

/-- 'laws.FnShellings': WHATEVER THE INPUT: true; the input reads as it did. -/
def fnShellingsSpec : ChangeSpec := { name := "fnShellings", fn := fun _ => fun
  | [d] => { results := [.lit (.bool true)], args := [d] }
  | _ => none }
def fnShellingsRow : OpenClaim := { program := "ytmemomfffehnkaa", sum := "a392dc095af57dffcdb61cdee8187df72457a246adec9b7c8a613eb1e6f96a5e", func := "loop.example/g03100/laws.FnShellings", spec := "fnShellings", unfollowed := true, recurses := true, apart := false }
def FnShellingsSaid : Prop := fnShellingsRow.holds Try.pinned (OpenSpec.ofChange fnShellingsSpec)

/-- ITS FALSE NEIGHBOUR: 'it returns false'. Refute it at one input. -/
def fnShellingsWrong : ChangeSpec := { name := "fnShellings", fn := fun _ => fun
  | [d] => { results := [.lit (.bool false)], args := [d] }
  | _ => none }
def FnShellingsWrongFalsely : Prop := fnShellingsRow.holds Try.pinned (OpenSpec.ofChange fnShellingsWrong)

/-- 'laws.FnPowers': WHATEVER THE INPUT: true; the input reads as it did. -/
def fnPowersSpec : ChangeSpec := { name := "fnPowers", fn := fun _ => fun
  | [d] => { results := [.lit (.bool true)], args := [d] }
  | _ => none }
def fnPowersRow : OpenClaim := { program := "ytmemomfffehnkaa", sum := "a392dc095af57dffcdb61cdee8187df72457a246adec9b7c8a613eb1e6f96a5e", func := "loop.example/g03100/laws.FnPowers", spec := "fnPowers", recurses := true, apart := false }
def FnPowersSaid : Prop := fnPowersRow.holds Try.pinned (OpenSpec.ofChange fnPowersSpec)

/-- ITS FALSE NEIGHBOUR: 'it returns false'. Refute it at one input. -/
def fnPowersWrong : ChangeSpec := { name := "fnPowers", fn := fun _ => fun
  | [d] => { results := [.lit (.bool false)], args := [d] }
  | _ => none }
def FnPowersWrongFalsely : Prop := fnPowersRow.holds Try.pinned (OpenSpec.ofChange fnPowersWrong)

/-- 'laws.FnCollapses': WHATEVER THE INPUT: true; the input reads as it did. -/
def fnCollapsesSpec : ChangeSpec := { name := "fnCollapses", fn := fun _ => fun
  | [d] => { results := [.lit (.bool true)], args := [d] }
  | _ => none }
def fnCollapsesRow : OpenClaim := { program := "ytmemomfffehnkaa", sum := "a392dc095af57dffcdb61cdee8187df72457a246adec9b7c8a613eb1e6f96a5e", func := "loop.example/g03100/laws.FnCollapses", spec := "fnCollapses", apart := false }
def FnCollapsesSaid : Prop := fnCollapsesRow.holds Try.pinned (OpenSpec.ofChange fnCollapsesSpec)

/-- ITS FALSE NEIGHBOUR: 'it returns false'. Refute it at one input. -/
def fnCollapsesWrong : ChangeSpec := { name := "fnCollapses", fn := fun _ => fun
  | [d] => { results := [.lit (.bool false)], args := [d] }
  | _ => none }
def FnCollapsesWrongFalsely : Prop := fnCollapsesRow.holds Try.pinned (OpenSpec.ofChange fnCollapsesWrong)

/-- 'laws.FnPairings': WHATEVER THE INPUT: true; the input reads as it did. -/
def fnPairingsSpec : ChangeSpec := { name := "fnPairings", fn := fun _ => fun
  | [d] => { results := [.lit (.bool true)], args := [d] }
  | _ => none }
def fnPairingsRow : OpenClaim := { program := "ytmemomfffehnkaa", sum := "a392dc095af57dffcdb61cdee8187df72457a246adec9b7c8a613eb1e6f96a5e", func := "loop.example/g03100/laws.FnPairings", spec := "fnPairings", apart := false }
def FnPairingsSaid : Prop := fnPairingsRow.holds Try.pinned (OpenSpec.ofChange fnPairingsSpec)

/-- ITS FALSE NEIGHBOUR: 'it returns false'. Refute it at one input. -/
def fnPairingsWrong : ChangeSpec := { name := "fnPairings", fn := fun _ => fun
  | [d] => { results := [.lit (.bool false)], args := [d] }
  | _ => none }
def FnPairingsWrongFalsely : Prop := fnPairingsRow.holds Try.pinned (OpenSpec.ofChange fnPairingsWrong)

/-- 'laws.FnDecomposed': WHATEVER THE INPUT: true; the input reads as it did. -/
def fnDecomposedSpec : ChangeSpec := { name := "fnDecomposed", fn := fun _ => fun
  | [d] => { results := [.lit (.bool true)], args := [d] }
  | _ => none }
def fnDecomposedRow : OpenClaim := { program := "ytmemomfffehnkaa", sum := "a392dc095af57dffcdb61cdee8187df72457a246adec9b7c8a613eb1e6f96a5e", func := "loop.example/g03100/laws.FnDecomposed", spec := "fnDecomposed", unfollowed := true, recurses := true, apart := false }
def FnDecomposedSaid : Prop := fnDecomposedRow.holds Try.pinned (OpenSpec.ofChange fnDecomposedSpec)

/-- ITS FALSE NEIGHBOUR: 'it returns false'. Refute it at one input. -/
def fnDecomposedWrong : ChangeSpec := { name := "fnDecomposed", fn := fun _ => fun
  | [d] => { results := [.lit (.bool false)], args := [d] }
  | _ => none }
def FnDecomposedWrongFalsely : Prop := fnDecomposedRow.holds Try.pinned (OpenSpec.ofChange fnDecomposedWrong)

/-- 'laws.FnDivisions': WHATEVER THE INPUT: true; the input reads as it did. -/
def fnDivisionsSpec : ChangeSpec := { name := "fnDivisions", fn := fun _ => fun
  | [d] => { results := [.lit (.bool true)], args := [d] }
  | _ => none }
def fnDivisionsRow : OpenClaim := { program := "ytmemomfffehnkaa", sum := "a392dc095af57dffcdb61cdee8187df72457a246adec9b7c8a613eb1e6f96a5e", func := "loop.example/g03100/laws.FnDivisions", spec := "fnDivisions", unfollowed := true, recurses := true, apart := false }
def FnDivisionsSaid : Prop := fnDivisionsRow.holds Try.pinned (OpenSpec.ofChange fnDivisionsSpec)

/-- ITS FALSE NEIGHBOUR: 'it returns false'. Refute it at one input. -/
def fnDivisionsWrong : ChangeSpec := { name := "fnDivisions", fn := fun _ => fun
  | [d] => { results := [.lit (.bool false)], args := [d] }
  | _ => none }
def FnDivisionsWrongFalsely : Prop := fnDivisionsRow.holds Try.pinned (OpenSpec.ofChange fnDivisionsWrong)

/- THE SECOND FORM. 'bulk': how many values and letters a reading holds, each counted each time it is reached (what is shared counts as often as it is met; a slice's spare places count too). A statement '..UptoSaid' is the law's where the arguments, and the package variables that the reading takes, are together of bulk at most 1048576: NARROWER than '..Said'. Prove '..Said' where nothing that the law and all that it calls make is longer than what came in: it says more and counts as full. Else prove '..UptoSaid'. A law counts once. -/
mutual
def uptoBulk {H : Type} : DataW H → Nat
  | .lit (.string bytes) => bytes.length + 1
  | .lit _ => 1
  | .nil => 1
  | .ptr d => uptoBulk d + 1
  | .slice elems spare => uptoBulkAll elems + uptoBulkAll spare + 1
  | .agg parts => uptoBulkAll parts + 1
  | .iface _ d => uptoBulk d + 1
  | .map entries => uptoBulkEntries entries + 1
  | .held _ => 1
def uptoBulkAll {H : Type} : List (DataW H) → Nat
  | [] => 0
  | d :: r => uptoBulk d + uptoBulkAll r
def uptoBulkEntries {H : Type} : List (Lit × DataW H) → Nat
  | [] => 0
  | x :: r => uptoBulkEntry x + uptoBulkEntries r
def uptoBulkEntry {H : Type} : Lit × DataW H → Nat
  | (.string bytes, d) => bytes.length + uptoBulk d + 1
  | (_, d) => uptoBulk d + 1
 end
def uptoSmall : (H : Type) → List (DataW H) → Bool := fun _ ds => decide (uptoBulkAll ds ≤ 1048576)
def OpenSpec.upto (s : _root_.Go.ChangeSpec) : _root_.Go.OpenSpec := { _root_.Go.OpenSpec.ofChange s with cond := some uptoSmall }

/-- 'laws.FnChains', WHERE WHAT IT READS IS OF BULK AT MOST 1048576: true; the input reads as it did. -/
def fnChainsUptoRow : OpenClaim := { program := "ytmemomfffehnkaa", sum := "a392dc095af57dffcdb61cdee8187df72457a246adec9b7c8a613eb1e6f96a5e", func := "loop.example/g03100/laws.FnChains", spec := "fnChains", apart := false, narrowed := true }
def FnChainsUptoSaid : Prop := fnChainsUptoRow.holds Try.pinned (OpenSpec.upto fnChainsSpec)

/-- 'laws.FnShellings', WHERE WHAT IT READS IS OF BULK AT MOST 1048576: true; the input reads as it did. -/
def fnShellingsUptoRow : OpenClaim := { program := "ytmemomfffehnkaa", sum := "a392dc095af57dffcdb61cdee8187df72457a246adec9b7c8a613eb1e6f96a5e", func := "loop.example/g03100/laws.FnShellings", spec := "fnShellings", unfollowed := true, recurses := true, apart := false, narrowed := true }
def FnShellingsUptoSaid : Prop := fnShellingsUptoRow.holds Try.pinned (OpenSpec.upto fnShellingsSpec)

/-- 'laws.FnPowers', WHERE WHAT IT READS IS OF BULK AT MOST 1048576: true; the input reads as it did. -/
def fnPowersUptoRow : OpenClaim := { program := "ytmemomfffehnkaa", sum := "a392dc095af57dffcdb61cdee8187df72457a246adec9b7c8a613eb1e6f96a5e", func := "loop.example/g03100/laws.FnPowers", spec := "fnPowers", recurses := true, apart := false, narrowed := true }
def FnPowersUptoSaid : Prop := fnPowersUptoRow.holds Try.pinned (OpenSpec.upto fnPowersSpec)

/-- 'laws.FnCollapses', WHERE WHAT IT READS IS OF BULK AT MOST 1048576: true; the input reads as it did. -/
def fnCollapsesUptoRow : OpenClaim := { program := "ytmemomfffehnkaa", sum := "a392dc095af57dffcdb61cdee8187df72457a246adec9b7c8a613eb1e6f96a5e", func := "loop.example/g03100/laws.FnCollapses", spec := "fnCollapses", apart := false, narrowed := true }
def FnCollapsesUptoSaid : Prop := fnCollapsesUptoRow.holds Try.pinned (OpenSpec.upto fnCollapsesSpec)

/-- 'laws.FnPairings', WHERE WHAT IT READS IS OF BULK AT MOST 1048576: true; the input reads as it did. -/
def fnPairingsUptoRow : OpenClaim := { program := "ytmemomfffehnkaa", sum := "a392dc095af57dffcdb61cdee8187df72457a246adec9b7c8a613eb1e6f96a5e", func := "loop.example/g03100/laws.FnPairings", spec := "fnPairings", apart := false, narrowed := true }
def FnPairingsUptoSaid : Prop := fnPairingsUptoRow.holds Try.pinned (OpenSpec.upto fnPairingsSpec)

/-- 'laws.FnDecomposed', WHERE WHAT IT READS IS OF BULK AT MOST 1048576: true; the input reads as it did. -/
def fnDecomposedUptoRow : OpenClaim := { program := "ytmemomfffehnkaa", sum := "a392dc095af57dffcdb61cdee8187df72457a246adec9b7c8a613eb1e6f96a5e", func := "loop.example/g03100/laws.FnDecomposed", spec := "fnDecomposed", unfollowed := true, recurses := true, apart := false, narrowed := true }
def FnDecomposedUptoSaid : Prop := fnDecomposedUptoRow.holds Try.pinned (OpenSpec.upto fnDecomposedSpec)

/-- 'laws.FnDivisions', WHERE WHAT IT READS IS OF BULK AT MOST 1048576: true; the input reads as it did. -/
def fnDivisionsUptoRow : OpenClaim := { program := "ytmemomfffehnkaa", sum := "a392dc095af57dffcdb61cdee8187df72457a246adec9b7c8a613eb1e6f96a5e", func := "loop.example/g03100/laws.FnDivisions", spec := "fnDivisions", unfollowed := true, recurses := true, apart := false, narrowed := true }
def FnDivisionsUptoSaid : Prop := fnDivisionsUptoRow.holds Try.pinned (OpenSpec.upto fnDivisionsSpec)

end Rows
end Go.Proofs.Ytmemomfffehnkaa
