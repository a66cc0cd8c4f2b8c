import Derived.Test.YtkfjacclpjgafaaKF
namespace Go.Proofs.Ytkfjacclpjgafaa
open Go Go.RowKit
set_option maxRecDepth 1000000
set_option linter.unusedSimpArgs false
set_option linter.unusedVariables false
set_option maxHeartbeats 1000000
def sc_l_heldComplex : SC := (.seq (.reg [⟨(some 2), none, (.box (.t 0))⟩, ⟨(some 4), none, (.mov (.c (.int .i64 0)))⟩]) (.seq (.reg [⟨(some 5), none, (.fad 1 (.t 2))⟩, ⟨(some 6), none, (.ld none .nil (.t 5))⟩, ⟨(some 7), none, (.mov (.t 1))⟩, ⟨(some 8), none, (.call 28 [(.t 6), (.t 7)])⟩, ⟨(some 1), none, (.mov (.t 8))⟩]) (.seq (.seq (.reg [⟨(some 9), none, (.mov (.t 1))⟩, ⟨(some 10), none, (.bin false .lss (.t 9) (.c (.int .i64 0)))⟩]) (.cond (.t 10) (.seq (.reg [⟨(some 4), none, (.mov (.c (.int .i64 (-1))))⟩]) .ret) .skip)) (.seq (.reg [⟨(some 11), none, (.mov (.t 1))⟩, ⟨(some 4), none, (.mov (.t 11))⟩]) .ret))))
theorem code_l_heldComplex : fnCode Try.prog [] 33 = some (12, sc_l_heldComplex, [(4, none)]) := by kernel_rfl
noncomputable def F_l_heldComplex : List V → Option V := F2 dC dI fun c k => heldG c.2 k
theorem fn_l_heldComplex : FnOk Try.prog 33 F_l_heldComplex := by
  have env := (envNil_ok (P := Try.prog)).add fn_l_heldIntS
  refine fn_ok code_l_heldComplex mixed env ?_
  intro args r h hb
  obtain ⟨_, _, ⟨n, l⟩, k, rfl, h1, h2, h4⟩ := F2_inv h
  cases dC_inv h1
  cases dI_inv h2
  clear h
  have hF : F_l_heldIntS [.list 1 (ints l), .int .i64 k] = some r := by simpa [F_l_heldIntS] using h4
  simp only [heldG, Option.ite_none_right_eq_some, Option.some.injEq] at h4
  obtain ⟨⟨hk, hk2, _⟩, rfl⟩ := h4
  refine ⟨by simp, fun w0 U0 L0 N0 => ?_⟩
  have hn : ¬ (k + (l.length : Int) < 0) := by omega
  simp -implicitDefEqProofs [sc_l_heldComplex, hF, hn]
end Go.Proofs.Ytkfjacclpjgafaa
