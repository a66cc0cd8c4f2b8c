/-
  No cell of these rows narrows 'for every input' (looked for: loops, veiled, ifaces, maps, wideKeys, modest, calm, conditions, laid).
  DERIVED. THE GIVEN ROWS OF THIS SEAT. 5 by the template 'for every input the law returns true; each argument reads behind the call as it read before'; 0 by the template 'total and deterministic' (their statements: YtkbgmkkboiihnaaTotals.lean).
  GIVEN WITH THE SEED: the statements are not yours to turn. If you find one false, say at which input.
  Laid BY PROGRAM, IN A SANDBOX (cutbox-rows.mjs): the forced cells as the released guide's own fill.sh prints them over the translation 22e098cf026f74b2… (all of the seat's roots in one cut). By AI agents, Wed Nov 11 2026. No macro, syntax, notation, axiom, sorry.
-/
import Derived.Test.YtkbgmkkboiihnaaChecked
import GoSem.Claim
import GoSem.ClaimJoined
import GoSem.ClaimMapViews
import Derived.JoinedTies
import Derived.KernelRfl
namespace Go.Proofs.Ytkbgmkkboiihnaa
/- THE CELL 'sum', in the pinned program and in every row, IS THE sha256 OF THE DUMP (.gsa) THAT YtkbgmkkboiihnaaProg.lean LOADS. Nothing in Lean hashes anything: it is a label: what it is worth is what the hold of that sum in a sandbox is worth. -/
noncomputable def Try.pinned : Pinned := { name := "ytkbgmkkboiihnaa", sum := "22e098cf026f74b20fedcd10577be5050ce18fb226988c0d57ba30dd3664b013", checked := Try.checked }
namespace Rows
def none {H : Type} : Left H := { results := [], args := [] }

/-- 'laws.FnExactFindDivision': WHATEVER THE INPUT: true; the input reads as it did. -/
def fnExactFindDivisionSpec : ChangeSpec := { name := "fnExactFindDivision", fn := fun _ => fun
  | [d] => { results := [.lit (.bool true)], args := [d] }
  | _ => none }
def fnExactFindDivisionRow : OpenClaim := { program := "ytkbgmkkboiihnaa", sum := "22e098cf026f74b20fedcd10577be5050ce18fb226988c0d57ba30dd3664b013", func := "loop.example/g03100/laws.FnExactFindDivision", spec := "fnExactFindDivision", unfollowed := true, recurses := true, apart := false }
def FnExactFindDivisionSaid : Prop := fnExactFindDivisionRow.holds Try.pinned (OpenSpec.ofChange fnExactFindDivisionSpec)

/-- ITS FALSE NEIGHBOUR: 'it returns false'. Refute it at one input. -/
def fnExactFindDivisionWrong : ChangeSpec := { name := "fnExactFindDivision", fn := fun _ => fun
  | [d] => { results := [.lit (.bool false)], args := [d] }
  | _ => none }
def FnExactFindDivisionWrongFalsely : Prop := fnExactFindDivisionRow.holds Try.pinned (OpenSpec.ofChange fnExactFindDivisionWrong)

/-- 'laws.FnExactIsDecomposable': WHATEVER THE INPUT: true; the input reads as it did. -/
def fnExactIsDecomposableSpec : ChangeSpec := { name := "fnExactIsDecomposable", fn := fun _ => fun
  | [d] => { results := [.lit (.bool true)], args := [d] }
  | _ => none }
def fnExactIsDecomposableRow : OpenClaim := { program := "ytkbgmkkboiihnaa", sum := "22e098cf026f74b20fedcd10577be5050ce18fb226988c0d57ba30dd3664b013", func := "loop.example/g03100/laws.FnExactIsDecomposable", spec := "fnExactIsDecomposable", unfollowed := true, recurses := true, apart := false }
def FnExactIsDecomposableSaid : Prop := fnExactIsDecomposableRow.holds Try.pinned (OpenSpec.ofChange fnExactIsDecomposableSpec)

/-- ITS FALSE NEIGHBOUR: 'it returns false'. Refute it at one input. -/
def fnExactIsDecomposableWrong : ChangeSpec := { name := "fnExactIsDecomposable", fn := fun _ => fun
  | [d] => { results := [.lit (.bool false)], args := [d] }
  | _ => none }
def FnExactIsDecomposableWrongFalsely : Prop := fnExactIsDecomposableRow.holds Try.pinned (OpenSpec.ofChange fnExactIsDecomposableWrong)

/-- 'laws.FnExactDecomposeBy': WHATEVER THE INPUT: true; the input reads as it did. -/
def fnExactDecomposeBySpec : ChangeSpec := { name := "fnExactDecomposeBy", fn := fun _ => fun
  | [d] => { results := [.lit (.bool true)], args := [d] }
  | _ => none }
def fnExactDecomposeByRow : OpenClaim := { program := "ytkbgmkkboiihnaa", sum := "22e098cf026f74b20fedcd10577be5050ce18fb226988c0d57ba30dd3664b013", func := "loop.example/g03100/laws.FnExactDecomposeBy", spec := "fnExactDecomposeBy", unfollowed := true, recurses := true, apart := false }
def FnExactDecomposeBySaid : Prop := fnExactDecomposeByRow.holds Try.pinned (OpenSpec.ofChange fnExactDecomposeBySpec)

/-- ITS FALSE NEIGHBOUR: 'it returns false'. Refute it at one input. -/
def fnExactDecomposeByWrong : ChangeSpec := { name := "fnExactDecomposeBy", fn := fun _ => fun
  | [d] => { results := [.lit (.bool false)], args := [d] }
  | _ => none }
def FnExactDecomposeByWrongFalsely : Prop := fnExactDecomposeByRow.holds Try.pinned (OpenSpec.ofChange fnExactDecomposeByWrong)

/-- 'laws.FnExactIsShellable': WHATEVER THE INPUT: true; the input reads as it did. -/
def fnExactIsShellableSpec : ChangeSpec := { name := "fnExactIsShellable", fn := fun _ => fun
  | [d] => { results := [.lit (.bool true)], args := [d] }
  | _ => none }
def fnExactIsShellableRow : OpenClaim := { program := "ytkbgmkkboiihnaa", sum := "22e098cf026f74b20fedcd10577be5050ce18fb226988c0d57ba30dd3664b013", func := "loop.example/g03100/laws.FnExactIsShellable", spec := "fnExactIsShellable", unfollowed := true, recurses := true, apart := false }
def FnExactIsShellableSaid : Prop := fnExactIsShellableRow.holds Try.pinned (OpenSpec.ofChange fnExactIsShellableSpec)

/-- ITS FALSE NEIGHBOUR: 'it returns false'. Refute it at one input. -/
def fnExactIsShellableWrong : ChangeSpec := { name := "fnExactIsShellable", fn := fun _ => fun
  | [d] => { results := [.lit (.bool false)], args := [d] }
  | _ => none }
def FnExactIsShellableWrongFalsely : Prop := fnExactIsShellableRow.holds Try.pinned (OpenSpec.ofChange fnExactIsShellableWrong)

/-- 'laws.FnExactFindShelling': WHATEVER THE INPUT: true; the input reads as it did. -/
def fnExactFindShellingSpec : ChangeSpec := { name := "fnExactFindShelling", fn := fun _ => fun
  | [d] => { results := [.lit (.bool true)], args := [d] }
  | _ => none }
def fnExactFindShellingRow : OpenClaim := { program := "ytkbgmkkboiihnaa", sum := "22e098cf026f74b20fedcd10577be5050ce18fb226988c0d57ba30dd3664b013", func := "loop.example/g03100/laws.FnExactFindShelling", spec := "fnExactFindShelling", unfollowed := true, recurses := true, apart := false }
def FnExactFindShellingSaid : Prop := fnExactFindShellingRow.holds Try.pinned (OpenSpec.ofChange fnExactFindShellingSpec)

/-- ITS FALSE NEIGHBOUR: 'it returns false'. Refute it at one input. -/
def fnExactFindShellingWrong : ChangeSpec := { name := "fnExactFindShelling", fn := fun _ => fun
  | [d] => { results := [.lit (.bool false)], args := [d] }
  | _ => none }
def FnExactFindShellingWrongFalsely : Prop := fnExactFindShellingRow.holds Try.pinned (OpenSpec.ofChange fnExactFindShellingWrong)

/- THE SECOND FORM. 'bulk': how many values and letters a reading holds, each counted each time it is reached (what is shared counts as often as it is met; a slice's spare places count too). A statement '..UptoSaid' is the law's where the arguments, and the package variables that the reading takes, are together of bulk at most 1048576: NARROWER than '..Said'. Prove '..Said' where nothing that the law and all that it calls make is longer than what came in: it says more and counts as full. Else prove '..UptoSaid'. A law counts once. -/
mutual
def uptoBulk {H : Type} : DataW H → Nat
  | .lit (.string bytes) => bytes.length + 1
  | .lit _ => 1
  | .nil => 1
  | .ptr d => uptoBulk d + 1
  | .slice elems spare => uptoBulkAll elems + uptoBulkAll spare + 1
  | .agg parts => uptoBulkAll parts + 1
  | .iface _ d => uptoBulk d + 1
  | .map entries => uptoBulkEntries entries + 1
  | .held _ => 1
def uptoBulkAll {H : Type} : List (DataW H) → Nat
  | [] => 0
  | d :: r => uptoBulk d + uptoBulkAll r
def uptoBulkEntries {H : Type} : List (Lit × DataW H) → Nat
  | [] => 0
  | x :: r => uptoBulkEntry x + uptoBulkEntries r
def uptoBulkEntry {H : Type} : Lit × DataW H → Nat
  | (.string bytes, d) => bytes.length + uptoBulk d + 1
  | (_, d) => uptoBulk d + 1
 end
def uptoSmall : (H : Type) → List (DataW H) → Bool := fun _ ds => decide (uptoBulkAll ds ≤ 1048576)
def OpenSpec.upto (s : _root_.Go.ChangeSpec) : _root_.Go.OpenSpec := { _root_.Go.OpenSpec.ofChange s with cond := some uptoSmall }

/-- 'laws.FnExactFindDivision', WHERE WHAT IT READS IS OF BULK AT MOST 1048576: true; the input reads as it did. -/
def fnExactFindDivisionUptoRow : OpenClaim := { program := "ytkbgmkkboiihnaa", sum := "22e098cf026f74b20fedcd10577be5050ce18fb226988c0d57ba30dd3664b013", func := "loop.example/g03100/laws.FnExactFindDivision", spec := "fnExactFindDivision", unfollowed := true, recurses := true, apart := false, narrowed := true }
def FnExactFindDivisionUptoSaid : Prop := fnExactFindDivisionUptoRow.holds Try.pinned (OpenSpec.upto fnExactFindDivisionSpec)

/-- 'laws.FnExactIsDecomposable', WHERE WHAT IT READS IS OF BULK AT MOST 1048576: true; the input reads as it did. -/
def fnExactIsDecomposableUptoRow : OpenClaim := { program := "ytkbgmkkboiihnaa", sum := "22e098cf026f74b20fedcd10577be5050ce18fb226988c0d57ba30dd3664b013", func := "loop.example/g03100/laws.FnExactIsDecomposable", spec := "fnExactIsDecomposable", unfollowed := true, recurses := true, apart := false, narrowed := true }
def FnExactIsDecomposableUptoSaid : Prop := fnExactIsDecomposableUptoRow.holds Try.pinned (OpenSpec.upto fnExactIsDecomposableSpec)

/-- 'laws.FnExactDecomposeBy', WHERE WHAT IT READS IS OF BULK AT MOST 1048576: true; the input reads as it did. -/
def fnExactDecomposeByUptoRow : OpenClaim := { program := "ytkbgmkkboiihnaa", sum := "22e098cf026f74b20fedcd10577be5050ce18fb226988c0d57ba30dd3664b013", func := "loop.example/g03100/laws.FnExactDecomposeBy", spec := "fnExactDecomposeBy", unfollowed := true, recurses := true, apart := false, narrowed := true }
def FnExactDecomposeByUptoSaid : Prop := fnExactDecomposeByUptoRow.holds Try.pinned (OpenSpec.upto fnExactDecomposeBySpec)

/-- 'laws.FnExactIsShellable', WHERE WHAT IT READS IS OF BULK AT MOST 1048576: true; the input reads as it did. -/
def fnExactIsShellableUptoRow : OpenClaim := { program := "ytkbgmkkboiihnaa", sum := "22e098cf026f74b20fedcd10577be5050ce18fb226988c0d57ba30dd3664b013", func := "loop.example/g03100/laws.FnExactIsShellable", spec := "fnExactIsShellable", unfollowed := true, recurses := true, apart := false, narrowed := true }
def FnExactIsShellableUptoSaid : Prop := fnExactIsShellableUptoRow.holds Try.pinned (OpenSpec.upto fnExactIsShellableSpec)

/-- 'laws.FnExactFindShelling', WHERE WHAT IT READS IS OF BULK AT MOST 1048576: true; the input reads as it did. -/
def fnExactFindShellingUptoRow : OpenClaim := { program := "ytkbgmkkboiihnaa", sum := "22e098cf026f74b20fedcd10577be5050ce18fb226988c0d57ba30dd3664b013", func := "loop.example/g03100/laws.FnExactFindShelling", spec := "fnExactFindShelling", unfollowed := true, recurses := true, apart := false, narrowed := true }
def FnExactFindShellingUptoSaid : Prop := fnExactFindShellingUptoRow.holds Try.pinned (OpenSpec.upto fnExactFindShellingSpec)

end Rows
end Go.Proofs.Ytkbgmkkboiihnaa
