import Derived.Test.YtmemomfffehnkaaGcB
import Derived.Test.YtmemomfffehnkaaKJ
namespace Go.Proofs.Ytmemomfffehnkaa
open Go Go.RowKit
set_option maxRecDepth 1000000
set_option linter.unusedSimpArgs false
set_option linter.unusedVariables false
set_option maxHeartbeats 1000000
def sc_s_l23Ridges : SC := (.seq (.reg [⟨(some 1), none, (.box (.t 0))⟩, ⟨(some 2), none, (.mov (.c .nil))⟩]) (.seq (.dreg [⟨⟨(some 3), none, (.ld (some 2) .undef (.t 1))⟩, false, false⟩, ⟨⟨(some 4), none, (.ld (some 2) .undef (.t 1))⟩, false, false⟩, ⟨⟨(some 5), none, (.call 155 [(.t 4)])⟩, false, false⟩, ⟨⟨(some 6), none, (.call 124 [(.t 3), (.t 5)])⟩, true, false⟩, ⟨⟨(some 2), none, (.mov (.t 6))⟩, false, false⟩]) .ret))
noncomputable def F_s_l23Ridges : List V → Option V := F1 dC fun c => some (.own 1 (ints (fosL c.1 c.2 (dimZ c.1 c.2))))
end Go.Proofs.Ytmemomfffehnkaa
