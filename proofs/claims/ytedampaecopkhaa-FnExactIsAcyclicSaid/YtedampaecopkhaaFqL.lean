import Derived.Test.YtedampaecopkhaaFqE
namespace Go.Proofs.Ytedampaecopkhaa
open Go Go.RowKit
set_option maxRecDepth 1000000
set_option linter.unusedSimpArgs false
set_option linter.unusedVariables false
set_option maxHeartbeats 1000000
/-- The pairs are fit for the search. -/
def reachOk (list : List (Int × Int)) : Prop := list.length ≤ 32 ∧ (∀ i, i < list.length → isS (pr0 list i).1 ∧ isS (pr0 list i).2) ∧ ∀ i k, i < list.length → k < list.length → i ≠ k → (pr0 list i).1 ≠ (pr0 list k).1
theorem pair_reach {n : Int} {l : List Int} {list : List (Int × Int)} (h : pairP n l list) : reachOk list :=
  ⟨pair_len h, fun i hi => ⟨(h.2 i hi).1.1, (h.2 i hi).1.2.1⟩, fun i k hi hk hne => pair_low h hi hk hne⟩
noncomputable def F_s_IsAcyclic : List V → Option V := F2 dC dP fun c list => some (.bool (dec (acycP c.1 c.2 list)))
end Go.Proofs.Ytedampaecopkhaa
