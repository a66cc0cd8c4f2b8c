import Derived.Test.YtkbgmkkboiihnaaIcE
import Derived.Test.YtkbgmkkboiihnaaKF
namespace Go.Proofs.Ytkbgmkkboiihnaa
open Go Go.RowKit
set_option maxRecDepth 1000000
set_option linter.unusedSimpArgs false
set_option linter.unusedVariables false
set_option maxHeartbeats 1000000
def sc_l_FnExactIsDecomposable : SC := (.seq (.reg [⟨(some 1), none, (.box (.t 0))⟩, ⟨(some 2), none, (.mov (.c (.bool false)))⟩]) (.seq (.reg [⟨(some 3), none, (.mov (.c (.int .i64 1048576)))⟩]) (.seq (.reg [⟨(some 7), none, (.ld (some 2) .undef (.t 1))⟩, ⟨(some 8), none, (.mov (.t 3))⟩, ⟨(some 9), none, (.call 8 [(.t 7), (.t 8)])⟩, ⟨(some 3), none, (.mov (.t 9))⟩]) (.seq (.seq (.reg [⟨(some 10), none, (.mov (.t 3))⟩, ⟨(some 11), none, (.bin false .lss (.t 10) (.c (.int .i64 0)))⟩]) (.cond (.t 11) (.seq (.reg [⟨(some 2), none, (.mov (.c (.bool true)))⟩]) .ret) .skip)) (.seq (.reg [⟨(some 12), none, (.ld (some 2) .undef (.t 1))⟩, ⟨(some 13), none, (.call 10 [(.t 12)])⟩, ⟨(some 14), none, (.call 17 [(.t 13)])⟩, ⟨(some 4), none, (.mov (.t 14))⟩]) (.seq (.reg [⟨(some 15), none, (.ld (some 2) .undef (.t 1))⟩, ⟨(some 16), none, (.call 10 [(.t 15)])⟩, ⟨(some 5), none, (.new [(.int .i64 0), .nil])⟩, ⟨none, none, (.st 2 (.t 5) (.t 16))⟩]) (.seq (.reg [⟨(some 17), none, (.ld (some 2) .undef (.t 5))⟩, ⟨(some 18), none, (.call 18 [(.t 17)])⟩, ⟨(some 6), none, (.mov (.t 18))⟩]) (.seq (.seq (.reg [⟨(some 19), none, (.mov (.t 6))⟩, ⟨(some 20), none, (.mov (.t 4))⟩, ⟨(some 21), none, (.bin true .neq (.t 19) (.t 20))⟩]) (.cond (.t 21) (.seq (.reg [⟨(some 2), none, (.mov (.c (.bool false)))⟩]) .ret) .skip)) (.seq (.seq (.dreg [⟨⟨(some 22), none, (.ld (some 2) .undef (.t 5))⟩, false, false⟩, ⟨⟨(some 23), none, (.ld (some 2) .undef (.t 1))⟩, false, false⟩, ⟨⟨(some 24), none, (.call 10 [(.t 23)])⟩, false, false⟩, ⟨⟨(some 25), none, (.call 13 [(.t 22), (.t 24)])⟩, false, false⟩, ⟨⟨(some 26), none, (.un .not (.t 25))⟩, false, false⟩]) (.cond (.t 26) (.seq (.reg [⟨(some 2), none, (.mov (.c (.bool false)))⟩]) .ret) .skip)) (.seq (.reg [⟨(some 2), none, (.mov (.c (.bool true)))⟩]) .ret))))))))))
theorem code_l_FnExactIsDecomposable : fnCode Try.prog [] 4 = some (27, sc_l_FnExactIsDecomposable, [(2, none)]) := by kernel_rfl
open Classical in
noncomputable def F_l_FnExactIsDecomposable : List V → Option V := F1 dC fun c0 => if allR c0.2 then some (.bool true) else none
theorem fn_l_FnExactIsDecomposable : FnOk Try.prog 4 F_l_FnExactIsDecomposable := by
  have env := (((((envNil_ok (P := Try.prog)).add fn_s_IsDecomposable).add fn_i_IsDecomposable).add fn_l_szComplex).add fn_l_toComplex).add fn_l_eqComplex
  refine fn_ok code_l_FnExactIsDecomposable mixed env ?_
  intro args r h hb
  obtain ⟨_, ⟨n, l⟩, rfl, h1, h9⟩ := F1_inv h
  cases dC_inv h1
  simp only [Option.ite_none_right_eq_some, Option.some.injEq] at h9
  obtain ⟨hc0, rfl⟩ := h9
  refine ⟨by simp, fun w0 U0 L0 N0 => ?_⟩
  by_cases hl2 : 1048576 < l.length
  · have e : leftOf l.length 1048576 = -1 := by simp only [leftOf]; split <;> omega
    simp -implicitDefEqProofs [sc_l_FnExactIsDecomposable, F_l_szComplex, e]
    try omega
  · have e : leftOf l.length 1048576 = 1048576 - l.length := by simp only [leftOf]; split <;> omega
    have hl3 : l.length ≤ 1048576 := by omega
    simp -implicitDefEqProofs [sc_l_FnExactIsDecomposable, F_s_IsDecomposable, F_l_szComplex, F_l_toComplex, F_l_eqComplex, e, hl3, hc0]
    try omega
end Go.Proofs.Ytkbgmkkboiihnaa
