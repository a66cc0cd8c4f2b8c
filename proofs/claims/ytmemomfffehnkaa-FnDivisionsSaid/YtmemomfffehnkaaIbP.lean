import Derived.Test.YtmemomfffehnkaaIbC
namespace Go.Proofs.Ytmemomfffehnkaa
open Go Go.RowKit
set_option maxRecDepth 1000000
set_option linter.unusedSimpArgs false
set_option linter.unusedVariables false
set_option maxHeartbeats 1000000
def sc_s_IsShellable : SC := (.seq (.reg [⟨(some 1), none, (.box (.t 0))⟩, ⟨(some 2), none, (.mov (.c (.bool false)))⟩]) (.seq (.reg [⟨(some 6), none, (.ld (some 2) .undef (.t 1))⟩, ⟨(some 7), none, (.call 31 [(.t 6)])⟩, ⟨(some 5), none, (.mov (.t 7))⟩, ⟨(some 8), none, (.ext 0 (.t 5))⟩, ⟨(some 9), none, (.ext 1 (.t 5))⟩, ⟨(some 3), none, (.mov (.t 8))⟩, ⟨(some 4), none, (.mov (.t 9))⟩]) (.seq (.reg [⟨(some 10), none, (.mov (.t 4))⟩, ⟨(some 2), none, (.mov (.t 10))⟩]) .ret)))
theorem code_s_IsShellable : fnCode Try.prog [] 62 = some (11, sc_s_IsShellable, [(2, none)]) := by kernel_rfl
noncomputable def F_s_IsShellable : List V → Option V := F1 dC fun c => some (.bool (dec (fshP c.1 c.2)))
theorem fn_s_IsShellable : FnOk Try.prog 62 F_s_IsShellable := by
  have env := (envNil_ok (P := Try.prog)).add fn_s_FindShelling
  refine fn_ok code_s_IsShellable mixed env ?_
  intro args r h hb
  obtain ⟨_, ⟨n, l⟩, rfl, h1, h4⟩ := F1_inv h
  cases dC_inv h1
  cases h4
  clear h
  refine ⟨by simp, fun w0 U0 L0 N0 => ?_⟩
  simp -implicitDefEqProofs [sc_s_IsShellable, F_s_FindShelling]
end Go.Proofs.Ytmemomfffehnkaa
