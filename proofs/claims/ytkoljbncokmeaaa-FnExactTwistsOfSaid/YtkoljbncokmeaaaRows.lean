/-
  No cell of these rows narrows 'for every input' (looked for: loops, veiled, ifaces, maps, wideKeys, modest, calm, conditions, laid).
  DERIVED. THE GIVEN ROWS OF THIS SEAT. 4 by the template 'for every input the law returns true; each argument reads behind the call as it read before'; 0 by the template 'total and deterministic' (their statements: YtkoljbncokmeaaaTotals.lean).
  GIVEN WITH THE SEED: the statements are not yours to turn. If you find one false, say at which input.
  Laid BY PROGRAM, IN A SANDBOX (cutbox-rows.mjs): the forced cells as the released guide's own fill.sh prints them over the translation 68560b9b008fe834… (all of the seat's roots in one cut). By AI agents, Wed Nov 11 2026. No macro, syntax, notation, axiom, sorry.
-/
import Derived.Test.YtkoljbncokmeaaaChecked
import GoSem.Claim
import GoSem.ClaimJoined
import GoSem.ClaimMapViews
import Derived.JoinedTies
import Derived.KernelRfl
namespace Go.Proofs.Ytkoljbncokmeaaa
/- THE CELL 'sum', in the pinned program and in every row, IS THE sha256 OF THE DUMP (.gsa) THAT YtkoljbncokmeaaaProg.lean LOADS. Nothing in Lean hashes anything: it is a label: what it is worth is what the hold of that sum in a sandbox is worth. -/
noncomputable def Try.pinned : Pinned := { name := "ytkoljbncokmeaaa", sum := "68560b9b008fe83410e620100b8e8ebfbfd13106de0cdc65cad05fc99cde83b9", checked := Try.checked }
namespace Rows
def none {H : Type} : Left H := { results := [], args := [] }

/-- 'laws.FnExactSmithOf': WHATEVER THE INPUT: true; the input reads as it did. -/
def fnExactSmithOfSpec : ChangeSpec := { name := "fnExactSmithOf", fn := fun _ => fun
  | [d] => { results := [.lit (.bool true)], args := [d] }
  | _ => none }
def fnExactSmithOfRow : OpenClaim := { program := "ytkoljbncokmeaaa", sum := "68560b9b008fe83410e620100b8e8ebfbfd13106de0cdc65cad05fc99cde83b9", func := "loop.example/g03100/laws.FnExactSmithOf", spec := "fnExactSmithOf", apart := false }
def FnExactSmithOfSaid : Prop := fnExactSmithOfRow.holds Try.pinned (OpenSpec.ofChange fnExactSmithOfSpec)

/-- ITS FALSE NEIGHBOUR: 'it returns false'. Refute it at one input. -/
def fnExactSmithOfWrong : ChangeSpec := { name := "fnExactSmithOf", fn := fun _ => fun
  | [d] => { results := [.lit (.bool false)], args := [d] }
  | _ => none }
def FnExactSmithOfWrongFalsely : Prop := fnExactSmithOfRow.holds Try.pinned (OpenSpec.ofChange fnExactSmithOfWrong)

/-- 'laws.FnExactCanTwist': WHATEVER THE INPUT: true; the input reads as it did. -/
def fnExactCanTwistSpec : ChangeSpec := { name := "fnExactCanTwist", fn := fun _ => fun
  | [d] => { results := [.lit (.bool true)], args := [d] }
  | _ => none }
def fnExactCanTwistRow : OpenClaim := { program := "ytkoljbncokmeaaa", sum := "68560b9b008fe83410e620100b8e8ebfbfd13106de0cdc65cad05fc99cde83b9", func := "loop.example/g03100/laws.FnExactCanTwist", spec := "fnExactCanTwist", apart := false }
def FnExactCanTwistSaid : Prop := fnExactCanTwistRow.holds Try.pinned (OpenSpec.ofChange fnExactCanTwistSpec)

/-- ITS FALSE NEIGHBOUR: 'it returns false'. Refute it at one input. -/
def fnExactCanTwistWrong : ChangeSpec := { name := "fnExactCanTwist", fn := fun _ => fun
  | [d] => { results := [.lit (.bool false)], args := [d] }
  | _ => none }
def FnExactCanTwistWrongFalsely : Prop := fnExactCanTwistRow.holds Try.pinned (OpenSpec.ofChange fnExactCanTwistWrong)

/-- 'laws.FnExactFreeHoles': WHATEVER THE INPUT: true; the input reads as it did. -/
def fnExactFreeHolesSpec : ChangeSpec := { name := "fnExactFreeHoles", fn := fun _ => fun
  | [d] => { results := [.lit (.bool true)], args := [d] }
  | _ => none }
def fnExactFreeHolesRow : OpenClaim := { program := "ytkoljbncokmeaaa", sum := "68560b9b008fe83410e620100b8e8ebfbfd13106de0cdc65cad05fc99cde83b9", func := "loop.example/g03100/laws.FnExactFreeHoles", spec := "fnExactFreeHoles", apart := false }
def FnExactFreeHolesSaid : Prop := fnExactFreeHolesRow.holds Try.pinned (OpenSpec.ofChange fnExactFreeHolesSpec)

/-- ITS FALSE NEIGHBOUR: 'it returns false'. Refute it at one input. -/
def fnExactFreeHolesWrong : ChangeSpec := { name := "fnExactFreeHoles", fn := fun _ => fun
  | [d] => { results := [.lit (.bool false)], args := [d] }
  | _ => none }
def FnExactFreeHolesWrongFalsely : Prop := fnExactFreeHolesRow.holds Try.pinned (OpenSpec.ofChange fnExactFreeHolesWrong)

/-- 'laws.FnExactTwistsOf': WHATEVER THE INPUT: true; the input reads as it did. -/
def fnExactTwistsOfSpec : ChangeSpec := { name := "fnExactTwistsOf", fn := fun _ => fun
  | [d1, d2] => { results := [.lit (.bool true)], args := [d1, d2] }
  | _ => none }
def fnExactTwistsOfRow : OpenClaim := { program := "ytkoljbncokmeaaa", sum := "68560b9b008fe83410e620100b8e8ebfbfd13106de0cdc65cad05fc99cde83b9", func := "loop.example/g03100/laws.FnExactTwistsOf", spec := "fnExactTwistsOf", apart := false }
def FnExactTwistsOfSaid : Prop := fnExactTwistsOfRow.holds Try.pinned (OpenSpec.ofChange fnExactTwistsOfSpec)

/-- ITS FALSE NEIGHBOUR: 'it returns false'. Refute it at one input. -/
def fnExactTwistsOfWrong : ChangeSpec := { name := "fnExactTwistsOf", fn := fun _ => fun
  | [d1, d2] => { results := [.lit (.bool false)], args := [d1, d2] }
  | _ => none }
def FnExactTwistsOfWrongFalsely : Prop := fnExactTwistsOfRow.holds Try.pinned (OpenSpec.ofChange fnExactTwistsOfWrong)

/- THE SECOND FORM. 'bulk': how many values and letters a reading holds, each counted each time it is reached (what is shared counts as often as it is met; a slice's spare places count too). A statement '..UptoSaid' is the law's where the arguments, and the package variables that the reading takes, are together of bulk at most 1048576: NARROWER than '..Said'. Prove '..Said' where nothing that the law and all that it calls make is longer than what came in: it says more and counts as full. Else prove '..UptoSaid'. A law counts once. -/
mutual
def uptoBulk {H : Type} : DataW H → Nat
  | .lit (.string bytes) => bytes.length + 1
  | .lit _ => 1
  | .nil => 1
  | .ptr d => uptoBulk d + 1
  | .slice elems spare => uptoBulkAll elems + uptoBulkAll spare + 1
  | .agg parts => uptoBulkAll parts + 1
  | .iface _ d => uptoBulk d + 1
  | .map entries => uptoBulkEntries entries + 1
  | .held _ => 1
def uptoBulkAll {H : Type} : List (DataW H) → Nat
  | [] => 0
  | d :: r => uptoBulk d + uptoBulkAll r
def uptoBulkEntries {H : Type} : List (Lit × DataW H) → Nat
  | [] => 0
  | x :: r => uptoBulkEntry x + uptoBulkEntries r
def uptoBulkEntry {H : Type} : Lit × DataW H → Nat
  | (.string bytes, d) => bytes.length + uptoBulk d + 1
  | (_, d) => uptoBulk d + 1
 end
def uptoSmall : (H : Type) → List (DataW H) → Bool := fun _ ds => decide (uptoBulkAll ds ≤ 1048576)
def OpenSpec.upto (s : _root_.Go.ChangeSpec) : _root_.Go.OpenSpec := { _root_.Go.OpenSpec.ofChange s with cond := some uptoSmall }

/-- 'laws.FnExactSmithOf', WHERE WHAT IT READS IS OF BULK AT MOST 1048576: true; the input reads as it did. -/
def fnExactSmithOfUptoRow : OpenClaim := { program := "ytkoljbncokmeaaa", sum := "68560b9b008fe83410e620100b8e8ebfbfd13106de0cdc65cad05fc99cde83b9", func := "loop.example/g03100/laws.FnExactSmithOf", spec := "fnExactSmithOf", apart := false, narrowed := true }
def FnExactSmithOfUptoSaid : Prop := fnExactSmithOfUptoRow.holds Try.pinned (OpenSpec.upto fnExactSmithOfSpec)

/-- 'laws.FnExactCanTwist', WHERE WHAT IT READS IS OF BULK AT MOST 1048576: true; the input reads as it did. -/
def fnExactCanTwistUptoRow : OpenClaim := { program := "ytkoljbncokmeaaa", sum := "68560b9b008fe83410e620100b8e8ebfbfd13106de0cdc65cad05fc99cde83b9", func := "loop.example/g03100/laws.FnExactCanTwist", spec := "fnExactCanTwist", apart := false, narrowed := true }
def FnExactCanTwistUptoSaid : Prop := fnExactCanTwistUptoRow.holds Try.pinned (OpenSpec.upto fnExactCanTwistSpec)

/-- 'laws.FnExactFreeHoles', WHERE WHAT IT READS IS OF BULK AT MOST 1048576: true; the input reads as it did. -/
def fnExactFreeHolesUptoRow : OpenClaim := { program := "ytkoljbncokmeaaa", sum := "68560b9b008fe83410e620100b8e8ebfbfd13106de0cdc65cad05fc99cde83b9", func := "loop.example/g03100/laws.FnExactFreeHoles", spec := "fnExactFreeHoles", apart := false, narrowed := true }
def FnExactFreeHolesUptoSaid : Prop := fnExactFreeHolesUptoRow.holds Try.pinned (OpenSpec.upto fnExactFreeHolesSpec)

/-- 'laws.FnExactTwistsOf', WHERE WHAT IT READS IS OF BULK AT MOST 1048576: true; the input reads as it did. -/
def fnExactTwistsOfUptoRow : OpenClaim := { program := "ytkoljbncokmeaaa", sum := "68560b9b008fe83410e620100b8e8ebfbfd13106de0cdc65cad05fc99cde83b9", func := "loop.example/g03100/laws.FnExactTwistsOf", spec := "fnExactTwistsOf", apart := false, narrowed := true }
def FnExactTwistsOfUptoSaid : Prop := fnExactTwistsOfUptoRow.holds Try.pinned (OpenSpec.upto fnExactTwistsOfSpec)

end Rows
end Go.Proofs.Ytkoljbncokmeaaa
