import Derived.Test.YtncnohompmcddaaGcB
import Derived.Test.YtncnohompmcddaaKJ
namespace Go.Proofs.Ytncnohompmcddaa
open Go Go.RowKit
set_option maxRecDepth 1000000
set_option linter.unusedSimpArgs false
set_option linter.unusedVariables false
set_option maxHeartbeats 1000000
def sc_s_l23Ridges : SC := (.seq (.reg [⟨(some 1), none, (.box (.t 0))⟩, ⟨(some 2), none, (.mov (.c .nil))⟩]) (.seq (.dreg [⟨⟨(some 3), none, (.ld (some 2) .undef (.t 1))⟩, false, false⟩, ⟨⟨(some 4), none, (.ld (some 2) .undef (.t 1))⟩, false, false⟩, ⟨⟨(some 5), none, (.call 42 [(.t 4)])⟩, false, false⟩, ⟨⟨(some 6), none, (.call 51 [(.t 3), (.t 5)])⟩, true, false⟩, ⟨⟨(some 2), none, (.mov (.t 6))⟩, false, false⟩]) .ret))
theorem code_s_l23Ridges : fnCode Try.prog [51] 112 = some (7, sc_s_l23Ridges, [(2, none)]) := by kernel_rfl
noncomputable def F_s_l23Ridges : List V → Option V := F1 dC fun c => some (.own 1 (ints (fosL c.1 c.2 (dimZ c.1 c.2))))
theorem fn_s_l23Ridges : FnOk Try.prog 112 F_s_l23Ridges := by
  have env := ((envNil_ok (P := Try.prog)).add fn_s_DimOf).add fn_s_FacesOfSize
  refine fn_ok code_s_l23Ridges mixed env ?_
  intro args r h hb
  obtain ⟨_, ⟨n, l⟩, rfl, h1, h4⟩ := F1_inv h
  cases dC_inv h1
  cases h4
  clear h
  refine ⟨by simp, fun w0 U0 L0 N0 => ?_⟩
  clear hb
  simp -implicitDefEqProofs [sc_s_l23Ridges, F_s_DimOf, F_s_FacesOfSize]
end Go.Proofs.Ytncnohompmcddaa
