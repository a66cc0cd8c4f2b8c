import Derived.Test.YtkfjacclpjgafaaGdI
import Derived.Test.YtkfjacclpjgafaaKF
namespace Go.Proofs.Ytkfjacclpjgafaa
open Go Go.RowKit
set_option maxRecDepth 1000000
set_option linter.unusedSimpArgs false
set_option linter.unusedVariables false
set_option maxHeartbeats 1000000
def sc_l_FnExactIsCycle : SC := (.seq (.reg [⟨(some 4), none, (.box (.t 0))⟩, ⟨(some 8), none, (.mov (.c (.bool false)))⟩]) (.seq (.seq (.reg [⟨(some 14), none, (.mov (.t 3))⟩, ⟨(some 15), none, (.len (.t 14))⟩, ⟨(some 16), none, (.bin false .gtr (.t 15) (.c (.int .i64 1048576)))⟩]) (.cond (.t 16) (.seq (.reg [⟨(some 8), none, (.mov (.c (.bool true)))⟩]) .ret) .skip)) (.seq (.reg [⟨(some 9), none, (.mov (.c (.int .i64 1048576)))⟩]) (.seq (.reg [⟨(some 17), none, (.ld (some 2) .undef (.t 4))⟩, ⟨(some 18), none, (.mov (.t 9))⟩, ⟨(some 19), none, (.call 17 [(.t 17), (.t 18)])⟩, ⟨(some 9), none, (.mov (.t 19))⟩]) (.seq (.seq (.reg [⟨(some 20), none, (.mov (.t 9))⟩, ⟨(some 21), none, (.bin false .lss (.t 20) (.c (.int .i64 0)))⟩]) (.cond (.t 21) (.seq (.reg [⟨(some 8), none, (.mov (.c (.bool true)))⟩]) .ret) .skip)) (.seq (.reg [⟨(some 22), none, (.ld (some 2) .undef (.t 4))⟩, ⟨(some 23), none, (.call 19 [(.t 22)])⟩, ⟨(some 24), none, (.mov (.t 1))⟩, ⟨(some 25), none, (.mov (.t 2))⟩, ⟨(some 26), none, (.mov (.t 3))⟩, ⟨(some 27), none, (.call 20 [(.t 26)])⟩, ⟨(some 28), none, (.call 50 [(.t 23), (.t 24), (.t 25), (.t 27)])⟩, ⟨(some 10), none, (.mov (.t 28))⟩]) (.seq (.reg [⟨(some 29), none, (.ld (some 2) .undef (.t 4))⟩, ⟨(some 30), none, (.call 19 [(.t 29)])⟩, ⟨(some 11), none, (.new [(.int .i64 0), .nil])⟩, ⟨none, none, (.st 2 (.t 11) (.t 30))⟩]) (.seq (.reg [⟨(some 31), none, (.mov (.t 3))⟩, ⟨(some 32), none, (.call 20 [(.t 31)])⟩, ⟨(some 12), none, (.mov (.t 32))⟩]) (.seq (.reg [⟨(some 33), none, (.ld (some 2) .undef (.t 11))⟩, ⟨(some 34), none, (.mov (.t 1))⟩, ⟨(some 35), none, (.mov (.t 2))⟩, ⟨(some 36), none, (.mov (.t 12))⟩, ⟨(some 37), none, (.call 51 [(.t 33), (.t 34), (.t 35), (.t 36)])⟩, ⟨(some 13), none, (.mov (.t 37))⟩]) (.seq (.seq (.reg [⟨(some 38), none, (.mov (.t 13))⟩, ⟨(some 39), none, (.mov (.t 10))⟩, ⟨(some 40), none, (.bin true .neq (.t 38) (.t 39))⟩]) (.cond (.t 40) (.seq (.reg [⟨(some 8), none, (.mov (.c (.bool false)))⟩]) .ret) .skip)) (.seq (.seq (.dreg [⟨⟨(some 41), none, (.ld (some 2) .undef (.t 11))⟩, false, false⟩, ⟨⟨(some 42), none, (.ld (some 2) .undef (.t 4))⟩, false, false⟩, ⟨⟨(some 43), none, (.call 19 [(.t 42)])⟩, false, false⟩, ⟨⟨(some 44), none, (.call 22 [(.t 41), (.t 43)])⟩, false, false⟩, ⟨⟨(some 45), none, (.un .not (.t 44))⟩, false, false⟩]) (.cond (.t 45) (.seq (.reg [⟨(some 8), none, (.mov (.c (.bool false)))⟩]) .ret) .skip)) (.seq (.seq (.reg [⟨(some 46), none, (.mov (.t 12))⟩, ⟨(some 47), none, (.mov (.t 3))⟩, ⟨(some 48), none, (.call 20 [(.t 47)])⟩, ⟨(some 49), none, (.call 23 [(.t 46), (.t 48)])⟩, ⟨(some 50), none, (.un .not (.t 49))⟩]) (.cond (.t 50) (.seq (.reg [⟨(some 8), none, (.mov (.c (.bool false)))⟩]) .ret) .skip)) (.seq (.reg [⟨(some 8), none, (.mov (.c (.bool true)))⟩]) .ret)))))))))))))
theorem code_l_FnExactIsCycle : fnCode Try.prog [] 13 = some (51, sc_l_FnExactIsCycle, [(8, none)]) := by kernel_rfl
open Classical in
noncomputable def F_l_FnExactIsCycle : List V → Option V := F4 dC dI dI dL fun c0 c1 c2 c3 => if allR c0.2 ∧ inR c1 ∧ inR c2 ∧ allR c3 then some (.bool true) else none
theorem fn_l_FnExactIsCycle : FnOk Try.prog 13 F_l_FnExactIsCycle := by
  have env := (((((((envNil_ok (P := Try.prog)).add fn_s_IsCycle).add fn_i_IsCycle).add fn_l_szComplex).add fn_l_toComplex).add fn_l_eqComplex).add fn_l_toIntS).add fn_l_eqIntS
  refine fn_ok code_l_FnExactIsCycle mixed env ?_
  intro args r h hb
  obtain ⟨_, _, _, _, ⟨n, l⟩, x1, x2, list, rfl, h1, h2, h3, h4, h9⟩ := F4_inv h
  cases dC_inv h1
  cases dI_inv h2
  cases dI_inv h3
  cases dL_inv h4
  simp only [Option.ite_none_right_eq_some, Option.some.injEq] at h9
  obtain ⟨⟨hc0, hc1, hc2, hc3⟩, rfl⟩ := h9
  refine ⟨by simp, fun w0 U0 L0 N0 => ?_⟩
  by_cases hl1 : 1048576 < list.length
  · have hx : (1048576 : Int) < list.length := by omega
    simp -implicitDefEqProofs [sc_l_FnExactIsCycle, hx]
    try omega
  · have hl4 : list.length ≤ 1048576 := by omega
    by_cases hl2 : 1048576 < l.length
    · have e : leftOf l.length 1048576 = -1 := by simp only [leftOf]; split <;> omega
      simp -implicitDefEqProofs [sc_l_FnExactIsCycle, F_l_szComplex, hl1, e]
      try omega
    · have e : leftOf l.length 1048576 = 1048576 - l.length := by simp only [leftOf]; split <;> omega
      have hl3 : l.length ≤ 1048576 := by omega
      simp -implicitDefEqProofs [sc_l_FnExactIsCycle, F_s_IsCycle, F_l_szComplex, F_l_toComplex, F_l_eqComplex, F_l_toIntS, F_l_eqIntS, hl1, hl4, e, hl3, hc0, hc1, hc2, hc3]
      try omega
end Go.Proofs.Ytkfjacclpjgafaa
