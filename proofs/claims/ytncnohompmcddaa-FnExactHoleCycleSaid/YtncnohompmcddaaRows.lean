/-
  No cell of these rows narrows 'for every input' (looked for: loops, veiled, ifaces, maps, wideKeys, modest, calm, conditions, laid).
  DERIVED. THE GIVEN ROWS OF THIS SEAT. 7 by the template 'for every input the law returns true; each argument reads behind the call as it read before'; 0 by the template 'total and deterministic' (their statements: YtncnohompmcddaaTotals.lean).
  GIVEN WITH THE SEED: the statements are not yours to turn. If you find one false, say at which input.
  Laid BY PROGRAM, IN A SANDBOX (cutbox-rows.mjs): the forced cells as the released guide's own fill.sh prints them over the translation d1d0d074ab5263da… (all of the seat's roots in one cut). By AI agents, Wed Nov 11 2026. No macro, syntax, notation, axiom, sorry.
-/
import Derived.Test.YtncnohompmcddaaChecked
import GoSem.Claim
import GoSem.ClaimJoined
import GoSem.ClaimMapViews
import Derived.JoinedTies
import Derived.KernelRfl
namespace Go.Proofs.Ytncnohompmcddaa
/- THE CELL 'sum', in the pinned program and in every row, IS THE sha256 OF THE DUMP (.gsa) THAT YtncnohompmcddaaProg.lean LOADS. Nothing in Lean hashes anything: it is a label: what it is worth is what the hold of that sum in a sandbox is worth. -/
noncomputable def Try.pinned : Pinned := { name := "ytncnohompmcddaa", sum := "d1d0d074ab5263daf3711d7ce3646aa45920e57446b73b0006d18141cbde2eee", checked := Try.checked }
namespace Rows
def none {H : Type} : Left H := { results := [], args := [] }

/-- 'laws.FnExactDepthOf': WHATEVER THE INPUT: true; the input reads as it did. -/
def fnExactDepthOfSpec : ChangeSpec := { name := "fnExactDepthOf", fn := fun _ => fun
  | [d1, d2] => { results := [.lit (.bool true)], args := [d1, d2] }
  | _ => none }
def fnExactDepthOfRow : OpenClaim := { program := "ytncnohompmcddaa", sum := "d1d0d074ab5263daf3711d7ce3646aa45920e57446b73b0006d18141cbde2eee", func := "loop.example/g03100/laws.FnExactDepthOf", spec := "fnExactDepthOf", unfollowed := true, recurses := true, apart := false }
def FnExactDepthOfSaid : Prop := fnExactDepthOfRow.holds Try.pinned (OpenSpec.ofChange fnExactDepthOfSpec)

/-- ITS FALSE NEIGHBOUR: 'it returns false'. Refute it at one input. -/
def fnExactDepthOfWrong : ChangeSpec := { name := "fnExactDepthOf", fn := fun _ => fun
  | [d1, d2] => { results := [.lit (.bool false)], args := [d1, d2] }
  | _ => none }
def FnExactDepthOfWrongFalsely : Prop := fnExactDepthOfRow.holds Try.pinned (OpenSpec.ofChange fnExactDepthOfWrong)

/-- 'laws.FnExactBadLink': WHATEVER THE INPUT: true; the input reads as it did. -/
def fnExactBadLinkSpec : ChangeSpec := { name := "fnExactBadLink", fn := fun _ => fun
  | [d1, d2] => { results := [.lit (.bool true)], args := [d1, d2] }
  | _ => none }
def fnExactBadLinkRow : OpenClaim := { program := "ytncnohompmcddaa", sum := "d1d0d074ab5263daf3711d7ce3646aa45920e57446b73b0006d18141cbde2eee", func := "loop.example/g03100/laws.FnExactBadLink", spec := "fnExactBadLink", unfollowed := true, recurses := true, apart := false }
def FnExactBadLinkSaid : Prop := fnExactBadLinkRow.holds Try.pinned (OpenSpec.ofChange fnExactBadLinkSpec)

/-- ITS FALSE NEIGHBOUR: 'it returns false'. Refute it at one input. -/
def fnExactBadLinkWrong : ChangeSpec := { name := "fnExactBadLink", fn := fun _ => fun
  | [d1, d2] => { results := [.lit (.bool false)], args := [d1, d2] }
  | _ => none }
def FnExactBadLinkWrongFalsely : Prop := fnExactBadLinkRow.holds Try.pinned (OpenSpec.ofChange fnExactBadLinkWrong)

/-- 'laws.FnExactIsCohenMacaulay': WHATEVER THE INPUT: true; the input reads as it did. -/
def fnExactIsCohenMacaulaySpec : ChangeSpec := { name := "fnExactIsCohenMacaulay", fn := fun _ => fun
  | [d1, d2] => { results := [.lit (.bool true)], args := [d1, d2] }
  | _ => none }
def fnExactIsCohenMacaulayRow : OpenClaim := { program := "ytncnohompmcddaa", sum := "d1d0d074ab5263daf3711d7ce3646aa45920e57446b73b0006d18141cbde2eee", func := "loop.example/g03100/laws.FnExactIsCohenMacaulay", spec := "fnExactIsCohenMacaulay", unfollowed := true, recurses := true, apart := false }
def FnExactIsCohenMacaulaySaid : Prop := fnExactIsCohenMacaulayRow.holds Try.pinned (OpenSpec.ofChange fnExactIsCohenMacaulaySpec)

/-- ITS FALSE NEIGHBOUR: 'it returns false'. Refute it at one input. -/
def fnExactIsCohenMacaulayWrong : ChangeSpec := { name := "fnExactIsCohenMacaulay", fn := fun _ => fun
  | [d1, d2] => { results := [.lit (.bool false)], args := [d1, d2] }
  | _ => none }
def FnExactIsCohenMacaulayWrongFalsely : Prop := fnExactIsCohenMacaulayRow.holds Try.pinned (OpenSpec.ofChange fnExactIsCohenMacaulayWrong)

/-- 'laws.FnExactHoleCycle': WHATEVER THE INPUT: true; the input reads as it did. -/
def fnExactHoleCycleSpec : ChangeSpec := { name := "fnExactHoleCycle", fn := fun _ => fun
  | [d1, d2, d3] => { results := [.lit (.bool true)], args := [d1, d2, d3] }
  | _ => none }
def fnExactHoleCycleRow : OpenClaim := { program := "ytncnohompmcddaa", sum := "d1d0d074ab5263daf3711d7ce3646aa45920e57446b73b0006d18141cbde2eee", func := "loop.example/g03100/laws.FnExactHoleCycle", spec := "fnExactHoleCycle", apart := false }
def FnExactHoleCycleSaid : Prop := fnExactHoleCycleRow.holds Try.pinned (OpenSpec.ofChange fnExactHoleCycleSpec)

/-- ITS FALSE NEIGHBOUR: 'it returns false'. Refute it at one input. -/
def fnExactHoleCycleWrong : ChangeSpec := { name := "fnExactHoleCycle", fn := fun _ => fun
  | [d1, d2, d3] => { results := [.lit (.bool false)], args := [d1, d2, d3] }
  | _ => none }
def FnExactHoleCycleWrongFalsely : Prop := fnExactHoleCycleRow.holds Try.pinned (OpenSpec.ofChange fnExactHoleCycleWrong)

/-- 'laws.FnExactDepthBySkeleton': WHATEVER THE INPUT: true; the input reads as it did. -/
def fnExactDepthBySkeletonSpec : ChangeSpec := { name := "fnExactDepthBySkeleton", fn := fun _ => fun
  | [d1, d2] => { results := [.lit (.bool true)], args := [d1, d2] }
  | _ => none }
def fnExactDepthBySkeletonRow : OpenClaim := { program := "ytncnohompmcddaa", sum := "d1d0d074ab5263daf3711d7ce3646aa45920e57446b73b0006d18141cbde2eee", func := "loop.example/g03100/laws.FnExactDepthBySkeleton", spec := "fnExactDepthBySkeleton", unfollowed := true, recurses := true, apart := false }
def FnExactDepthBySkeletonSaid : Prop := fnExactDepthBySkeletonRow.holds Try.pinned (OpenSpec.ofChange fnExactDepthBySkeletonSpec)

/-- ITS FALSE NEIGHBOUR: 'it returns false'. Refute it at one input. -/
def fnExactDepthBySkeletonWrong : ChangeSpec := { name := "fnExactDepthBySkeleton", fn := fun _ => fun
  | [d1, d2] => { results := [.lit (.bool false)], args := [d1, d2] }
  | _ => none }
def FnExactDepthBySkeletonWrongFalsely : Prop := fnExactDepthBySkeletonRow.holds Try.pinned (OpenSpec.ofChange fnExactDepthBySkeletonWrong)

/-- 'laws.FnExactIsNearlySo': WHATEVER THE INPUT: true; the input reads as it did. -/
def fnExactIsNearlySoSpec : ChangeSpec := { name := "fnExactIsNearlySo", fn := fun _ => fun
  | [d1, d2] => { results := [.lit (.bool true)], args := [d1, d2] }
  | _ => none }
def fnExactIsNearlySoRow : OpenClaim := { program := "ytncnohompmcddaa", sum := "d1d0d074ab5263daf3711d7ce3646aa45920e57446b73b0006d18141cbde2eee", func := "loop.example/g03100/laws.FnExactIsNearlySo", spec := "fnExactIsNearlySo", unfollowed := true, recurses := true, apart := false }
def FnExactIsNearlySoSaid : Prop := fnExactIsNearlySoRow.holds Try.pinned (OpenSpec.ofChange fnExactIsNearlySoSpec)

/-- ITS FALSE NEIGHBOUR: 'it returns false'. Refute it at one input. -/
def fnExactIsNearlySoWrong : ChangeSpec := { name := "fnExactIsNearlySo", fn := fun _ => fun
  | [d1, d2] => { results := [.lit (.bool false)], args := [d1, d2] }
  | _ => none }
def FnExactIsNearlySoWrongFalsely : Prop := fnExactIsNearlySoRow.holds Try.pinned (OpenSpec.ofChange fnExactIsNearlySoWrong)

/-- 'laws.FnExactIsOrientable': WHATEVER THE INPUT: true; the input reads as it did. -/
def fnExactIsOrientableSpec : ChangeSpec := { name := "fnExactIsOrientable", fn := fun _ => fun
  | [d] => { results := [.lit (.bool true)], args := [d] }
  | _ => none }
def fnExactIsOrientableRow : OpenClaim := { program := "ytncnohompmcddaa", sum := "d1d0d074ab5263daf3711d7ce3646aa45920e57446b73b0006d18141cbde2eee", func := "loop.example/g03100/laws.FnExactIsOrientable", spec := "fnExactIsOrientable", unfollowed := true, recurses := true, apart := false }
def FnExactIsOrientableSaid : Prop := fnExactIsOrientableRow.holds Try.pinned (OpenSpec.ofChange fnExactIsOrientableSpec)

/-- ITS FALSE NEIGHBOUR: 'it returns false'. Refute it at one input. -/
def fnExactIsOrientableWrong : ChangeSpec := { name := "fnExactIsOrientable", fn := fun _ => fun
  | [d] => { results := [.lit (.bool false)], args := [d] }
  | _ => none }
def FnExactIsOrientableWrongFalsely : Prop := fnExactIsOrientableRow.holds Try.pinned (OpenSpec.ofChange fnExactIsOrientableWrong)

/- THE SECOND FORM. 'bulk': how many values and letters a reading holds, each counted each time it is reached (what is shared counts as often as it is met; a slice's spare places count too). A statement '..UptoSaid' is the law's where the arguments, and the package variables that the reading takes, are together of bulk at most 1048576: NARROWER than '..Said'. Prove '..Said' where nothing that the law and all that it calls make is longer than what came in: it says more and counts as full. Else prove '..UptoSaid'. A law counts once. -/
mutual
def uptoBulk {H : Type} : DataW H → Nat
  | .lit (.string bytes) => bytes.length + 1
  | .lit _ => 1
  | .nil => 1
  | .ptr d => uptoBulk d + 1
  | .slice elems spare => uptoBulkAll elems + uptoBulkAll spare + 1
  | .agg parts => uptoBulkAll parts + 1
  | .iface _ d => uptoBulk d + 1
  | .map entries => uptoBulkEntries entries + 1
  | .held _ => 1
def uptoBulkAll {H : Type} : List (DataW H) → Nat
  | [] => 0
  | d :: r => uptoBulk d + uptoBulkAll r
def uptoBulkEntries {H : Type} : List (Lit × DataW H) → Nat
  | [] => 0
  | x :: r => uptoBulkEntry x + uptoBulkEntries r
def uptoBulkEntry {H : Type} : Lit × DataW H → Nat
  | (.string bytes, d) => bytes.length + uptoBulk d + 1
  | (_, d) => uptoBulk d + 1
 end
def uptoSmall : (H : Type) → List (DataW H) → Bool := fun _ ds => decide (uptoBulkAll ds ≤ 1048576)
def OpenSpec.upto (s : _root_.Go.ChangeSpec) : _root_.Go.OpenSpec := { _root_.Go.OpenSpec.ofChange s with cond := some uptoSmall }

/-- 'laws.FnExactDepthOf', WHERE WHAT IT READS IS OF BULK AT MOST 1048576: true; the input reads as it did. -/
def fnExactDepthOfUptoRow : OpenClaim := { program := "ytncnohompmcddaa", sum := "d1d0d074ab5263daf3711d7ce3646aa45920e57446b73b0006d18141cbde2eee", func := "loop.example/g03100/laws.FnExactDepthOf", spec := "fnExactDepthOf", unfollowed := true, recurses := true, apart := false, narrowed := true }
def FnExactDepthOfUptoSaid : Prop := fnExactDepthOfUptoRow.holds Try.pinned (OpenSpec.upto fnExactDepthOfSpec)

/-- 'laws.FnExactBadLink', WHERE WHAT IT READS IS OF BULK AT MOST 1048576: true; the input reads as it did. -/
def fnExactBadLinkUptoRow : OpenClaim := { program := "ytncnohompmcddaa", sum := "d1d0d074ab5263daf3711d7ce3646aa45920e57446b73b0006d18141cbde2eee", func := "loop.example/g03100/laws.FnExactBadLink", spec := "fnExactBadLink", unfollowed := true, recurses := true, apart := false, narrowed := true }
def FnExactBadLinkUptoSaid : Prop := fnExactBadLinkUptoRow.holds Try.pinned (OpenSpec.upto fnExactBadLinkSpec)

/-- 'laws.FnExactIsCohenMacaulay', WHERE WHAT IT READS IS OF BULK AT MOST 1048576: true; the input reads as it did. -/
def fnExactIsCohenMacaulayUptoRow : OpenClaim := { program := "ytncnohompmcddaa", sum := "d1d0d074ab5263daf3711d7ce3646aa45920e57446b73b0006d18141cbde2eee", func := "loop.example/g03100/laws.FnExactIsCohenMacaulay", spec := "fnExactIsCohenMacaulay", unfollowed := true, recurses := true, apart := false, narrowed := true }
def FnExactIsCohenMacaulayUptoSaid : Prop := fnExactIsCohenMacaulayUptoRow.holds Try.pinned (OpenSpec.upto fnExactIsCohenMacaulaySpec)

/-- 'laws.FnExactHoleCycle', WHERE WHAT IT READS IS OF BULK AT MOST 1048576: true; the input reads as it did. -/
def fnExactHoleCycleUptoRow : OpenClaim := { program := "ytncnohompmcddaa", sum := "d1d0d074ab5263daf3711d7ce3646aa45920e57446b73b0006d18141cbde2eee", func := "loop.example/g03100/laws.FnExactHoleCycle", spec := "fnExactHoleCycle", apart := false, narrowed := true }
def FnExactHoleCycleUptoSaid : Prop := fnExactHoleCycleUptoRow.holds Try.pinned (OpenSpec.upto fnExactHoleCycleSpec)

/-- 'laws.FnExactDepthBySkeleton', WHERE WHAT IT READS IS OF BULK AT MOST 1048576: true; the input reads as it did. -/
def fnExactDepthBySkeletonUptoRow : OpenClaim := { program := "ytncnohompmcddaa", sum := "d1d0d074ab5263daf3711d7ce3646aa45920e57446b73b0006d18141cbde2eee", func := "loop.example/g03100/laws.FnExactDepthBySkeleton", spec := "fnExactDepthBySkeleton", unfollowed := true, recurses := true, apart := false, narrowed := true }
def FnExactDepthBySkeletonUptoSaid : Prop := fnExactDepthBySkeletonUptoRow.holds Try.pinned (OpenSpec.upto fnExactDepthBySkeletonSpec)

/-- 'laws.FnExactIsNearlySo', WHERE WHAT IT READS IS OF BULK AT MOST 1048576: true; the input reads as it did. -/
def fnExactIsNearlySoUptoRow : OpenClaim := { program := "ytncnohompmcddaa", sum := "d1d0d074ab5263daf3711d7ce3646aa45920e57446b73b0006d18141cbde2eee", func := "loop.example/g03100/laws.FnExactIsNearlySo", spec := "fnExactIsNearlySo", unfollowed := true, recurses := true, apart := false, narrowed := true }
def FnExactIsNearlySoUptoSaid : Prop := fnExactIsNearlySoUptoRow.holds Try.pinned (OpenSpec.upto fnExactIsNearlySoSpec)

/-- 'laws.FnExactIsOrientable', WHERE WHAT IT READS IS OF BULK AT MOST 1048576: true; the input reads as it did. -/
def fnExactIsOrientableUptoRow : OpenClaim := { program := "ytncnohompmcddaa", sum := "d1d0d074ab5263daf3711d7ce3646aa45920e57446b73b0006d18141cbde2eee", func := "loop.example/g03100/laws.FnExactIsOrientable", spec := "fnExactIsOrientable", unfollowed := true, recurses := true, apart := false, narrowed := true }
def FnExactIsOrientableUptoSaid : Prop := fnExactIsOrientableUptoRow.holds Try.pinned (OpenSpec.upto fnExactIsOrientableSpec)

end Rows
end Go.Proofs.Ytncnohompmcddaa
