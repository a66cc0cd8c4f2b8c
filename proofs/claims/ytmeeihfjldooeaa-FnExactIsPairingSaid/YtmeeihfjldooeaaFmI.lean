import Derived.Test.YtmeeihfjldooeaaFmG
import Derived.Test.YtmeeihfjldooeaaFmH
namespace Go.Proofs.Ytmeeihfjldooeaa
open Go Go.RowKit
set_option maxRecDepth 1000000
set_option linter.unusedSimpArgs false
set_option linter.unusedVariables false
set_option maxHeartbeats 1000000
def sc_l_FnExactIsPairing : SC := (.seq (.reg [⟨(some 2), none, (.box (.t 0))⟩, ⟨(some 4), none, (.mov (.c (.bool false)))⟩]) (.seq (.reg [⟨(some 5), none, (.mov (.c (.int .i64 1048576)))⟩]) (.seq (.reg [⟨(some 10), none, (.ld (some 2) .undef (.t 2))⟩, ⟨(some 11), none, (.mov (.t 5))⟩, ⟨(some 12), none, (.call 9 [(.t 10), (.t 11)])⟩, ⟨(some 5), none, (.mov (.t 12))⟩]) (.seq (.seq (.reg [⟨(some 13), none, (.mov (.t 5))⟩, ⟨(some 14), none, (.bin false .lss (.t 13) (.c (.int .i64 0)))⟩]) (.cond (.t 14) (.seq (.reg [⟨(some 4), none, (.mov (.c (.bool true)))⟩]) .ret) .skip)) (.seq (.reg [⟨(some 15), none, (.mov (.t 1))⟩, ⟨(some 16), none, (.mov (.t 5))⟩, ⟨(some 17), none, (.call 24 [(.t 15), (.t 16)])⟩, ⟨(some 5), none, (.mov (.t 17))⟩]) (.seq (.seq (.reg [⟨(some 18), none, (.mov (.t 5))⟩, ⟨(some 19), none, (.bin false .lss (.t 18) (.c (.int .i64 0)))⟩]) (.cond (.t 19) (.seq (.reg [⟨(some 4), none, (.mov (.c (.bool true)))⟩]) .ret) .skip)) (.seq (.reg [⟨(some 20), none, (.ld (some 2) .undef (.t 2))⟩, ⟨(some 21), none, (.call 11 [(.t 20)])⟩, ⟨(some 22), none, (.mov (.t 1))⟩, ⟨(some 23), none, (.call 26 [(.t 22)])⟩, ⟨(some 24), none, (.call 25 [(.t 21), (.t 23)])⟩, ⟨(some 6), none, (.mov (.t 24))⟩]) (.seq (.reg [⟨(some 25), none, (.ld (some 2) .undef (.t 2))⟩, ⟨(some 26), none, (.call 11 [(.t 25)])⟩, ⟨(some 7), none, (.new [(.int .i64 0), .nil])⟩, ⟨none, none, (.st 2 (.t 7) (.t 26))⟩]) (.seq (.reg [⟨(some 27), none, (.mov (.t 1))⟩, ⟨(some 28), none, (.call 26 [(.t 27)])⟩, ⟨(some 8), none, (.mov (.t 28))⟩]) (.seq (.reg [⟨(some 29), none, (.ld (some 2) .undef (.t 7))⟩, ⟨(some 30), none, (.mov (.t 8))⟩, ⟨(some 31), none, (.call 27 [(.t 29), (.t 30)])⟩, ⟨(some 9), none, (.mov (.t 31))⟩]) (.seq (.seq (.reg [⟨(some 32), none, (.mov (.t 9))⟩, ⟨(some 33), none, (.mov (.t 6))⟩, ⟨(some 34), none, (.bin true .neq (.t 32) (.t 33))⟩]) (.cond (.t 34) (.seq (.reg [⟨(some 4), none, (.mov (.c (.bool false)))⟩]) .ret) .skip)) (.seq (.seq (.dreg [⟨⟨(some 35), none, (.ld (some 2) .undef (.t 7))⟩, false, false⟩, ⟨⟨(some 36), none, (.ld (some 2) .undef (.t 2))⟩, false, false⟩, ⟨⟨(some 37), none, (.call 11 [(.t 36)])⟩, false, false⟩, ⟨⟨(some 38), none, (.call 14 [(.t 35), (.t 37)])⟩, false, false⟩, ⟨⟨(some 39), none, (.un .not (.t 38))⟩, false, false⟩]) (.cond (.t 39) (.seq (.reg [⟨(some 4), none, (.mov (.c (.bool false)))⟩]) .ret) .skip)) (.seq (.seq (.reg [⟨(some 40), none, (.mov (.t 8))⟩, ⟨(some 41), none, (.mov (.t 1))⟩, ⟨(some 42), none, (.call 26 [(.t 41)])⟩, ⟨(some 43), none, (.call 28 [(.t 40), (.t 42)])⟩, ⟨(some 44), none, (.un .not (.t 43))⟩]) (.cond (.t 44) (.seq (.reg [⟨(some 4), none, (.mov (.c (.bool false)))⟩]) .ret) .skip)) (.seq (.reg [⟨(some 4), none, (.mov (.c (.bool true)))⟩]) .ret))))))))))))))
theorem code_l_FnExactIsPairing : fnCode Try.prog [] 8 = some (45, sc_l_FnExactIsPairing, [(4, none)]) := by kernel_rfl
open Classical in
noncomputable def F_l_FnExactIsPairing : List V → Option V := F2 dC dP fun c0 c1 => if allR c0.2 ∧ allRP c1 then some (.bool true) else none
theorem fn_l_FnExactIsPairing : FnOk Try.prog 8 F_l_FnExactIsPairing := by
  have env := ((((((((envNil_ok (P := Try.prog)).add fn_s_IsPairing).add fn_i_IsPairing).add fn_l_szComplex).add fn_l_toComplex).add fn_l_eqComplex).add fn_l_szPairS).add fn_l_toPairS).add fn_l_eqPairS
  refine fn_ok code_l_FnExactIsPairing mixed env ?_
  intro args r h hb
  obtain ⟨_, _, ⟨n, l⟩, list, rfl, h1, h2, h9⟩ := F2_inv h
  cases dC_inv h1
  cases dP_inv h2
  simp only [Option.ite_none_right_eq_some, Option.some.injEq] at h9
  obtain ⟨⟨hc0, hc1⟩, rfl⟩ := h9
  refine ⟨by simp, fun w0 U0 L0 N0 => ?_⟩
  by_cases hl2 : 1048576 < l.length
  · have e : leftOf l.length 1048576 = -1 := by simp only [leftOf]; split <;> omega
    simp -implicitDefEqProofs [sc_l_FnExactIsPairing, F_l_szComplex, e]
    try omega
  · have e : leftOf l.length 1048576 = 1048576 - l.length := by simp only [leftOf]; split <;> omega
    have hl3 : l.length ≤ 1048576 := by omega
    have hl7 : (l.length : Int) ≤ 1048576 := by omega
    have hl9 : (1048576 : Int) - l.length ≤ 1048576 := by omega
    by_cases hl5 : (1048576 : Int) - l.length < list.length
    · have e2 : leftOf list.length (1048576 - l.length) = -1 := by simp only [leftOf]; split <;> omega
      simp -implicitDefEqProofs [sc_l_FnExactIsPairing, F_l_szComplex, F_l_szPairS, e, e2, hl3, hl7, hl9]
      try omega
    have e2 : leftOf list.length (1048576 - l.length) = 1048576 - l.length - list.length := by simp only [leftOf]; split <;> omega
    have hl6 : list.length ≤ 1048576 := by omega
    have htk : (prs list).take (list.length * 2) = prs list := List.take_of_length_le (by simp)
    have hl8 : ¬ ((1048576 : Int) - l.length - list.length < 0) := by omega
    simp -implicitDefEqProofs [sc_l_FnExactIsPairing, F_l_szPairS, F_s_IsPairing, F_l_szComplex, F_l_toComplex, F_l_eqComplex, F_l_toPairS, F_l_eqPairS, e, e2, hl3, hl6, hl7, hl8, hl9, htk, hc0, hc1]
    try omega
end Go.Proofs.Ytmeeihfjldooeaa
