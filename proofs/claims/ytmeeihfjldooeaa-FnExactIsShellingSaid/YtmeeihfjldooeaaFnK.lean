import Derived.Test.YtmeeihfjldooeaaFnF
import Derived.Test.YtmeeihfjldooeaaFnJ
namespace Go.Proofs.Ytmeeihfjldooeaa
open Go Go.RowKit
set_option maxRecDepth 1000000
set_option linter.unusedSimpArgs false
set_option linter.unusedVariables false
set_option maxHeartbeats 1000000
def sc_l_FnExactIsShelling : SC := (.seq (.reg [⟨(some 2), none, (.box (.t 0))⟩, ⟨(some 4), none, (.mov (.c (.bool false)))⟩]) (.seq (.seq (.reg [⟨(some 10), none, (.mov (.t 1))⟩, ⟨(some 11), none, (.len (.t 10))⟩, ⟨(some 12), none, (.bin false .gtr (.t 11) (.c (.int .i64 1048576)))⟩]) (.cond (.t 12) (.seq (.reg [⟨(some 4), none, (.mov (.c (.bool true)))⟩]) .ret) .skip)) (.seq (.reg [⟨(some 5), none, (.mov (.c (.int .i64 1048576)))⟩]) (.seq (.reg [⟨(some 13), none, (.ld (some 2) .undef (.t 2))⟩, ⟨(some 14), none, (.mov (.t 5))⟩, ⟨(some 15), none, (.call 9 [(.t 13), (.t 14)])⟩, ⟨(some 5), none, (.mov (.t 15))⟩]) (.seq (.seq (.reg [⟨(some 16), none, (.mov (.t 5))⟩, ⟨(some 17), none, (.bin false .lss (.t 16) (.c (.int .i64 0)))⟩]) (.cond (.t 17) (.seq (.reg [⟨(some 4), none, (.mov (.c (.bool true)))⟩]) .ret) .skip)) (.seq (.reg [⟨(some 18), none, (.ld (some 2) .undef (.t 2))⟩, ⟨(some 19), none, (.call 11 [(.t 18)])⟩, ⟨(some 20), none, (.mov (.t 1))⟩, ⟨(some 21), none, (.call 12 [(.t 20)])⟩, ⟨(some 22), none, (.call 22 [(.t 19), (.t 21)])⟩, ⟨(some 6), none, (.mov (.t 22))⟩]) (.seq (.reg [⟨(some 23), none, (.ld (some 2) .undef (.t 2))⟩, ⟨(some 24), none, (.call 11 [(.t 23)])⟩, ⟨(some 7), none, (.new [(.int .i64 0), .nil])⟩, ⟨none, none, (.st 2 (.t 7) (.t 24))⟩]) (.seq (.reg [⟨(some 25), none, (.mov (.t 1))⟩, ⟨(some 26), none, (.call 12 [(.t 25)])⟩, ⟨(some 8), none, (.mov (.t 26))⟩]) (.seq (.reg [⟨(some 27), none, (.ld (some 2) .undef (.t 7))⟩, ⟨(some 28), none, (.mov (.t 8))⟩, ⟨(some 29), none, (.call 23 [(.t 27), (.t 28)])⟩, ⟨(some 9), none, (.mov (.t 29))⟩]) (.seq (.seq (.reg [⟨(some 30), none, (.mov (.t 9))⟩, ⟨(some 31), none, (.mov (.t 6))⟩, ⟨(some 32), none, (.bin true .neq (.t 30) (.t 31))⟩]) (.cond (.t 32) (.seq (.reg [⟨(some 4), none, (.mov (.c (.bool false)))⟩]) .ret) .skip)) (.seq (.seq (.dreg [⟨⟨(some 33), none, (.ld (some 2) .undef (.t 7))⟩, false, false⟩, ⟨⟨(some 34), none, (.ld (some 2) .undef (.t 2))⟩, false, false⟩, ⟨⟨(some 35), none, (.call 11 [(.t 34)])⟩, false, false⟩, ⟨⟨(some 36), none, (.call 14 [(.t 33), (.t 35)])⟩, false, false⟩, ⟨⟨(some 37), none, (.un .not (.t 36))⟩, false, false⟩]) (.cond (.t 37) (.seq (.reg [⟨(some 4), none, (.mov (.c (.bool false)))⟩]) .ret) .skip)) (.seq (.seq (.reg [⟨(some 38), none, (.mov (.t 8))⟩, ⟨(some 39), none, (.mov (.t 1))⟩, ⟨(some 40), none, (.call 12 [(.t 39)])⟩, ⟨(some 41), none, (.call 15 [(.t 38), (.t 40)])⟩, ⟨(some 42), none, (.un .not (.t 41))⟩]) (.cond (.t 42) (.seq (.reg [⟨(some 4), none, (.mov (.c (.bool false)))⟩]) .ret) .skip)) (.seq (.reg [⟨(some 4), none, (.mov (.c (.bool true)))⟩]) .ret)))))))))))))
theorem code_l_FnExactIsShelling : fnCode Try.prog [] 7 = some (43, sc_l_FnExactIsShelling, [(4, none)]) := by kernel_rfl
def F_l_FnExactIsShelling : List V → Option V := F2 dC dL fun _ _ => some (.bool true)
theorem fn_l_FnExactIsShelling : FnOk Try.prog 7 F_l_FnExactIsShelling := by
  have env := (((((((envNil_ok (P := Try.prog)).add fn_s_IsShelling).add fn_i_IsShelling).add fn_l_szComplex).add fn_l_toComplex).add fn_l_toIntS).add fn_l_eqComplex).add fn_l_eqIntS
  refine fn_ok code_l_FnExactIsShelling mixed env ?_
  intro args r h hb
  obtain ⟨_, _, ⟨n, l⟩, list, rfl, h1, h2, h4⟩ := F2_inv h
  cases dC_inv h1
  cases dL_inv h2
  cases h4
  refine ⟨by simp, fun w0 U0 L0 N0 => ?_⟩
  by_cases hl1 : 1048576 < list.length
  · have hc : (1048576 : Int) < list.length := by omega
    simp -implicitDefEqProofs [sc_l_FnExactIsShelling, hc]
    try omega
  · by_cases hl2 : 1048576 < l.length
    · have e : leftOf l.length 1048576 = -1 := by simp only [leftOf]; split <;> omega
      simp -implicitDefEqProofs [sc_l_FnExactIsShelling, F_l_szComplex, hl1, e]
      try omega
    · have e : leftOf l.length 1048576 = 1048576 - l.length := by simp only [leftOf]; split <;> omega
      have hl3 : l.length ≤ 1048576 := by omega
      have hl4 : list.length ≤ 1048576 := by omega
      simp -implicitDefEqProofs [sc_l_FnExactIsShelling, F_l_szComplex, F_l_toComplex, F_l_toIntS, F_s_IsShelling, F_l_eqComplex, F_l_eqIntS, hl1, e, hl3, hl4]
      try omega
end Go.Proofs.Ytmeeihfjldooeaa
