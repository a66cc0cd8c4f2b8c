import Derived.Test.YtncnohompmcddaaHbG
import Derived.Test.YtncnohompmcddaaKF
namespace Go.Proofs.Ytncnohompmcddaa
open Go Go.RowKit
set_option maxRecDepth 1000000
set_option linter.unusedSimpArgs false
set_option linter.unusedVariables false
set_option maxHeartbeats 1000000
def sc_l_FnExactIsCohenMacaulay : SC := (.seq (.reg [⟨(some 2), none, (.box (.t 0))⟩, ⟨(some 4), none, (.mov (.c (.bool false)))⟩]) (.seq (.reg [⟨(some 5), none, (.mov (.c (.int .i64 1048576)))⟩]) (.seq (.reg [⟨(some 9), none, (.ld (some 2) .undef (.t 2))⟩, ⟨(some 10), none, (.mov (.t 5))⟩, ⟨(some 11), none, (.call 10 [(.t 9), (.t 10)])⟩, ⟨(some 5), none, (.mov (.t 11))⟩]) (.seq (.seq (.reg [⟨(some 12), none, (.mov (.t 5))⟩, ⟨(some 13), none, (.bin false .lss (.t 12) (.c (.int .i64 0)))⟩]) (.cond (.t 13) (.seq (.reg [⟨(some 4), none, (.mov (.c (.bool true)))⟩]) .ret) .skip)) (.seq (.reg [⟨(some 14), none, (.ld (some 2) .undef (.t 2))⟩, ⟨(some 15), none, (.call 12 [(.t 14)])⟩, ⟨(some 16), none, (.mov (.t 1))⟩, ⟨(some 17), none, (.call 17 [(.t 15), (.t 16)])⟩, ⟨(some 6), none, (.mov (.t 17))⟩]) (.seq (.reg [⟨(some 18), none, (.ld (some 2) .undef (.t 2))⟩, ⟨(some 19), none, (.call 12 [(.t 18)])⟩, ⟨(some 7), none, (.new [(.int .i64 0), .nil])⟩, ⟨none, none, (.st 2 (.t 7) (.t 19))⟩]) (.seq (.reg [⟨(some 20), none, (.ld (some 2) .undef (.t 7))⟩, ⟨(some 21), none, (.mov (.t 1))⟩, ⟨(some 22), none, (.call 18 [(.t 20), (.t 21)])⟩, ⟨(some 8), none, (.mov (.t 22))⟩]) (.seq (.seq (.reg [⟨(some 23), none, (.mov (.t 8))⟩, ⟨(some 24), none, (.mov (.t 6))⟩, ⟨(some 25), none, (.bin true .neq (.t 23) (.t 24))⟩]) (.cond (.t 25) (.seq (.reg [⟨(some 4), none, (.mov (.c (.bool false)))⟩]) .ret) .skip)) (.seq (.seq (.dreg [⟨⟨(some 26), none, (.ld (some 2) .undef (.t 7))⟩, false, false⟩, ⟨⟨(some 27), none, (.ld (some 2) .undef (.t 2))⟩, false, false⟩, ⟨⟨(some 28), none, (.call 12 [(.t 27)])⟩, false, false⟩, ⟨⟨(some 29), none, (.call 14 [(.t 26), (.t 28)])⟩, false, false⟩, ⟨⟨(some 30), none, (.un .not (.t 29))⟩, false, false⟩]) (.cond (.t 30) (.seq (.reg [⟨(some 4), none, (.mov (.c (.bool false)))⟩]) .ret) .skip)) (.seq (.reg [⟨(some 4), none, (.mov (.c (.bool true)))⟩]) .ret))))))))))
theorem code_l_FnExactIsCohenMacaulay : fnCode Try.prog [] 5 = some (31, sc_l_FnExactIsCohenMacaulay, [(4, none)]) := by kernel_rfl
open Classical in
noncomputable def F_l_FnExactIsCohenMacaulay : List V → Option V := F2 dC dI fun c0 c1 => if allR c0.2 ∧ inR c1 then some (.bool true) else none
theorem fn_l_FnExactIsCohenMacaulay : FnOk Try.prog 5 F_l_FnExactIsCohenMacaulay := by
  have env := (((((envNil_ok (P := Try.prog)).add fn_s_IsCohenMacaulay).add fn_i_IsCohenMacaulay).add fn_l_szComplex).add fn_l_toComplex).add fn_l_eqComplex
  refine fn_ok code_l_FnExactIsCohenMacaulay mixed env ?_
  intro args r h hb
  obtain ⟨_, _, ⟨n, l⟩, x1, rfl, h1, h2, h9⟩ := F2_inv h
  cases dC_inv h1
  cases dI_inv h2
  simp only [Option.ite_none_right_eq_some, Option.some.injEq] at h9
  obtain ⟨⟨hc0, hc1⟩, rfl⟩ := h9
  refine ⟨by simp, fun w0 U0 L0 N0 => ?_⟩
  by_cases hl2 : 1048576 < l.length
  · have e : leftOf l.length 1048576 = -1 := by simp only [leftOf]; split <;> omega
    simp -implicitDefEqProofs [sc_l_FnExactIsCohenMacaulay, F_l_szComplex, e]
    try omega
  · have e : leftOf l.length 1048576 = 1048576 - l.length := by simp only [leftOf]; split <;> omega
    have hl3 : l.length ≤ 1048576 := by omega
    simp -implicitDefEqProofs [sc_l_FnExactIsCohenMacaulay, F_s_IsCohenMacaulay, F_l_szComplex, F_l_toComplex, F_l_eqComplex, e, hl3, hc0, hc1]
    try omega
end Go.Proofs.Ytncnohompmcddaa
