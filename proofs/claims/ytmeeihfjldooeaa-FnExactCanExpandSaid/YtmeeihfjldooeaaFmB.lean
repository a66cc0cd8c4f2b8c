import Derived.Test.YtmeeihfjldooeaaFnF
import Derived.Test.YtmeeihfjldooeaaFnW
namespace Go.Proofs.Ytmeeihfjldooeaa
open Go Go.RowKit
set_option maxRecDepth 1000000
set_option linter.unusedSimpArgs false
set_option linter.unusedVariables false
set_option maxHeartbeats 1000000
def sc_l_FnExactCanExpand : SC := (.seq (.reg [⟨(some 3), none, (.box (.t 0))⟩, ⟨(some 6), none, (.mov (.c (.bool false)))⟩]) (.seq (.reg [⟨(some 7), none, (.mov (.c (.int .i64 1048576)))⟩]) (.seq (.reg [⟨(some 11), none, (.ld (some 2) .undef (.t 3))⟩, ⟨(some 12), none, (.mov (.t 7))⟩, ⟨(some 13), none, (.call 9 [(.t 11), (.t 12)])⟩, ⟨(some 7), none, (.mov (.t 13))⟩]) (.seq (.seq (.reg [⟨(some 14), none, (.mov (.t 7))⟩, ⟨(some 15), none, (.bin false .lss (.t 14) (.c (.int .i64 0)))⟩]) (.cond (.t 15) (.seq (.reg [⟨(some 6), none, (.mov (.c (.bool true)))⟩]) .ret) .skip)) (.seq (.reg [⟨(some 16), none, (.ld (some 2) .undef (.t 3))⟩, ⟨(some 17), none, (.call 11 [(.t 16)])⟩, ⟨(some 18), none, (.mov (.t 1))⟩, ⟨(some 19), none, (.mov (.t 2))⟩, ⟨(some 20), none, (.call 18 [(.t 17), (.t 18), (.t 19)])⟩, ⟨(some 8), none, (.mov (.t 20))⟩]) (.seq (.reg [⟨(some 21), none, (.ld (some 2) .undef (.t 3))⟩, ⟨(some 22), none, (.call 11 [(.t 21)])⟩, ⟨(some 9), none, (.new [(.int .i64 0), .nil])⟩, ⟨none, none, (.st 2 (.t 9) (.t 22))⟩]) (.seq (.reg [⟨(some 23), none, (.ld (some 2) .undef (.t 9))⟩, ⟨(some 24), none, (.mov (.t 1))⟩, ⟨(some 25), none, (.mov (.t 2))⟩, ⟨(some 26), none, (.call 19 [(.t 23), (.t 24), (.t 25)])⟩, ⟨(some 10), none, (.mov (.t 26))⟩]) (.seq (.seq (.reg [⟨(some 27), none, (.mov (.t 10))⟩, ⟨(some 28), none, (.mov (.t 8))⟩, ⟨(some 29), none, (.bin true .neq (.t 27) (.t 28))⟩]) (.cond (.t 29) (.seq (.reg [⟨(some 6), none, (.mov (.c (.bool false)))⟩]) .ret) .skip)) (.seq (.seq (.dreg [⟨⟨(some 30), none, (.ld (some 2) .undef (.t 9))⟩, false, false⟩, ⟨⟨(some 31), none, (.ld (some 2) .undef (.t 3))⟩, false, false⟩, ⟨⟨(some 32), none, (.call 11 [(.t 31)])⟩, false, false⟩, ⟨⟨(some 33), none, (.call 14 [(.t 30), (.t 32)])⟩, false, false⟩, ⟨⟨(some 34), none, (.un .not (.t 33))⟩, false, false⟩]) (.cond (.t 34) (.seq (.reg [⟨(some 6), none, (.mov (.c (.bool false)))⟩]) .ret) .skip)) (.seq (.reg [⟨(some 6), none, (.mov (.c (.bool true)))⟩]) .ret))))))))))
theorem code_l_FnExactCanExpand : fnCode Try.prog [] 5 = some (35, sc_l_FnExactCanExpand, [(6, none)]) := by kernel_rfl
open Classical in
noncomputable def F_l_FnExactCanExpand : List V → Option V := F3 dC dI dI fun c0 c1 c2 => if allR c0.2 ∧ inR c1 ∧ inR c2 then some (.bool true) else none
theorem fn_l_FnExactCanExpand : FnOk Try.prog 5 F_l_FnExactCanExpand := by
  have env := (((((envNil_ok (P := Try.prog)).add fn_s_CanExpand).add fn_i_CanExpand).add fn_l_szComplex).add fn_l_toComplex).add fn_l_eqComplex
  refine fn_ok code_l_FnExactCanExpand mixed env ?_
  intro args r h hb
  obtain ⟨_, _, _, ⟨n, l⟩, x1, x2, rfl, h1, h2, h3, h9⟩ := F3_inv h
  cases dC_inv h1
  cases dI_inv h2
  cases dI_inv h3
  simp only [Option.ite_none_right_eq_some, Option.some.injEq] at h9
  obtain ⟨⟨hc0, hc1, hc2⟩, rfl⟩ := h9
  refine ⟨by simp, fun w0 U0 L0 N0 => ?_⟩
  by_cases hl2 : 1048576 < l.length
  · have e : leftOf l.length 1048576 = -1 := by simp only [leftOf]; split <;> omega
    simp -implicitDefEqProofs [sc_l_FnExactCanExpand, F_l_szComplex, e]
    try omega
  · have e : leftOf l.length 1048576 = 1048576 - l.length := by simp only [leftOf]; split <;> omega
    have hl3 : l.length ≤ 1048576 := by omega
    simp -implicitDefEqProofs [sc_l_FnExactCanExpand, F_s_CanExpand, F_l_szComplex, F_l_toComplex, F_l_eqComplex, e, hl3, hc0, hc1, hc2]
    try omega
end Go.Proofs.Ytmeeihfjldooeaa
