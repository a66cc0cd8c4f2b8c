import Derived.Test.YtkfjacclpjgafaaGbG
import Derived.Test.YtkfjacclpjgafaaKF
namespace Go.Proofs.Ytkfjacclpjgafaa
open Go Go.RowKit
set_option maxRecDepth 1000000
set_option linter.unusedSimpArgs false
set_option linter.unusedVariables false
set_option maxHeartbeats 1000000
noncomputable def R0ShellingCounts (n : Int) (l list : List Int) : List Int := shcL n l list
theorem bnd0ShellingCounts (n : Int) (l list : List Int) : (R0ShellingCounts n l list).length ≤ 64 := by
  unfold R0ShellingCounts shcL
  have := topZ_bnd (faceS l)
  split
  · rw [szRow_len]; omega
  · simp
theorem resSShellingCounts (n : Int) (l list : List Int) : F_s_ShellingCounts [.agg [.int .i64 n, .list 1 (ints l)], .list 1 (ints list)] = some (.own 1 (ints (R0ShellingCounts n l list))) := by simp [F_s_ShellingCounts, R0ShellingCounts]
theorem resIShellingCounts (n : Int) (l list : List Int) : F_s_ShellingCounts [.agg [.int .i64 n, .list 1 (ints l)], .list 1 (ints list)] = some (.own 1 (ints (R0ShellingCounts n l list))) := resSShellingCounts n l list
def sc_l_FnExactShellingCounts : SC := (.seq (.reg [⟨(some 2), none, (.box (.t 0))⟩, ⟨(some 4), none, (.mov (.c (.bool false)))⟩]) (.seq (.seq (.reg [⟨(some 14), none, (.mov (.t 1))⟩, ⟨(some 15), none, (.len (.t 14))⟩, ⟨(some 16), none, (.bin false .gtr (.t 15) (.c (.int .i64 1048576)))⟩]) (.cond (.t 16) (.seq (.reg [⟨(some 4), none, (.mov (.c (.bool true)))⟩]) .ret) .skip)) (.seq (.reg [⟨(some 5), none, (.mov (.c (.int .i64 1048576)))⟩]) (.seq (.reg [⟨(some 17), none, (.ld (some 2) .undef (.t 2))⟩, ⟨(some 18), none, (.mov (.t 5))⟩, ⟨(some 19), none, (.call 17 [(.t 17), (.t 18)])⟩, ⟨(some 5), none, (.mov (.t 19))⟩]) (.seq (.seq (.reg [⟨(some 20), none, (.mov (.t 5))⟩, ⟨(some 21), none, (.bin false .lss (.t 20) (.c (.int .i64 0)))⟩]) (.cond (.t 21) (.seq (.reg [⟨(some 4), none, (.mov (.c (.bool true)))⟩]) .ret) .skip)) (.seq (.reg [⟨(some 22), none, (.ld (some 2) .undef (.t 2))⟩, ⟨(some 23), none, (.call 19 [(.t 22)])⟩, ⟨(some 24), none, (.mov (.t 1))⟩, ⟨(some 25), none, (.call 20 [(.t 24)])⟩, ⟨(some 26), none, (.call 34 [(.t 23), (.t 25)])⟩, ⟨(some 6), none, (.mov (.t 26))⟩]) (.seq (.reg [⟨(some 27), none, (.ld (some 2) .undef (.t 2))⟩, ⟨(some 28), none, (.call 19 [(.t 27)])⟩, ⟨(some 7), none, (.new [(.int .i64 0), .nil])⟩, ⟨none, none, (.st 2 (.t 7) (.t 28))⟩]) (.seq (.reg [⟨(some 29), none, (.mov (.t 1))⟩, ⟨(some 30), none, (.call 20 [(.t 29)])⟩, ⟨(some 8), none, (.mov (.t 30))⟩]) (.seq (.reg [⟨(some 31), none, (.ld (some 2) .undef (.t 7))⟩, ⟨(some 32), none, (.mov (.t 8))⟩, ⟨(some 33), none, (.call 35 [(.t 31), (.t 32)])⟩, ⟨(some 9), none, (.mov (.t 33))⟩]) (.seq (.seq (.reg [⟨(some 34), none, (.mov (.t 9))⟩, ⟨(some 35), none, (.mov (.t 6))⟩, ⟨(some 36), none, (.call 23 [(.t 34), (.t 35)])⟩, ⟨(some 37), none, (.un .not (.t 36))⟩]) (.cond (.t 37) (.seq (.reg [⟨(some 4), none, (.mov (.c (.bool false)))⟩]) .ret) .skip)) (.seq (.seq (.dreg [⟨⟨(some 38), none, (.ld (some 2) .undef (.t 7))⟩, false, false⟩, ⟨⟨(some 39), none, (.ld (some 2) .undef (.t 2))⟩, false, false⟩, ⟨⟨(some 40), none, (.call 19 [(.t 39)])⟩, false, false⟩, ⟨⟨(some 41), none, (.call 22 [(.t 38), (.t 40)])⟩, false, false⟩, ⟨⟨(some 42), none, (.un .not (.t 41))⟩, false, false⟩]) (.cond (.t 42) (.seq (.reg [⟨(some 4), none, (.mov (.c (.bool false)))⟩]) .ret) .skip)) (.seq (.seq (.reg [⟨(some 43), none, (.mov (.t 8))⟩, ⟨(some 44), none, (.mov (.t 1))⟩, ⟨(some 45), none, (.call 20 [(.t 44)])⟩, ⟨(some 46), none, (.call 23 [(.t 43), (.t 45)])⟩, ⟨(some 47), none, (.un .not (.t 46))⟩]) (.cond (.t 47) (.seq (.reg [⟨(some 4), none, (.mov (.c (.bool false)))⟩]) .ret) .skip)) (.seq (.reg [⟨(some 10), none, (.mov (.c (.int .i64 1)))⟩]) (.seq (.reg [⟨(some 48), none, (.ld (some 2) .undef (.t 7))⟩, ⟨(some 49), none, (.mov (.t 10))⟩, ⟨(some 50), none, (.call 26 [(.t 48), (.t 49)])⟩, ⟨(some 10), none, (.mov (.t 50))⟩]) (.seq (.reg [⟨(some 51), none, (.mov (.t 8))⟩, ⟨(some 52), none, (.mov (.t 10))⟩, ⟨(some 53), none, (.call 27 [(.t 51), (.t 52)])⟩, ⟨(some 10), none, (.mov (.t 53))⟩]) (.seq (.seq (.reg [⟨(some 54), none, (.mov (.t 10))⟩, ⟨(some 55), none, (.bin false .lss (.t 54) (.c (.int .i64 0)))⟩, ⟨(some 56), none, (.mov (.t 55))⟩, ⟨(some 57), (some (56, false)), (.mov (.t 9))⟩, ⟨(some 58), (some (56, false)), (.mov (.t 6))⟩, ⟨(some 59), (some (56, false)), (.call 23 [(.t 57), (.t 58)])⟩, ⟨(some 60), (some (56, false)), (.un .not (.t 59))⟩, ⟨(some 61), none, (.pick (.t 56) (.c (.bool true)) (.t 60))⟩]) (.cond (.t 61) (.seq (.reg [⟨(some 4), none, (.mov (.c (.bool false)))⟩]) .ret) .skip)) (.seq (.reg [⟨(some 11), none, (.mov (.c (.int .i64 1)))⟩]) (.seq (.reg [⟨(some 62), none, (.mov (.t 9))⟩, ⟨(some 63), none, (.mov (.t 11))⟩, ⟨(some 64), none, (.call 27 [(.t 62), (.t 63)])⟩, ⟨(some 11), none, (.mov (.t 64))⟩]) (.seq (.reg [⟨(some 12), none, (.mov (.c (.int .i64 1)))⟩]) (.seq (.reg [⟨(some 65), none, (.mov (.t 9))⟩, ⟨(some 66), none, (.mov (.t 12))⟩, ⟨(some 67), none, (.call 28 [(.t 65), (.t 66)])⟩, ⟨(some 12), none, (.mov (.t 67))⟩]) (.seq (.seq (.reg [⟨(some 68), none, (.mov (.t 12))⟩, ⟨(some 69), none, (.bin false .lss (.t 68) (.c (.int .i64 0)))⟩]) (.cond (.t 69) (.seq (.reg [⟨(some 4), none, (.mov (.c (.bool false)))⟩]) .ret) .skip)) (.seq (.seq (.reg [⟨(some 70), none, (.mov (.t 12))⟩, ⟨(some 71), none, (.mov (.t 11))⟩, ⟨(some 72), none, (.bin false .neq (.t 70) (.t 71))⟩]) (.cond (.t 72) (.seq (.reg [⟨(some 4), none, (.mov (.c (.bool false)))⟩]) .ret) .skip)) (.seq (.reg [⟨(some 73), none, (.ld (some 2) .undef (.t 2))⟩, ⟨(some 74), none, (.call 19 [(.t 73)])⟩, ⟨(some 75), none, (.mov (.t 1))⟩, ⟨(some 76), none, (.call 20 [(.t 75)])⟩, ⟨(some 77), none, (.call 35 [(.t 74), (.t 76)])⟩, ⟨(some 13), none, (.mov (.t 77))⟩]) (.seq (.seq (.reg [⟨(some 78), none, (.mov (.t 13))⟩, ⟨(some 79), none, (.mov (.t 6))⟩, ⟨(some 80), none, (.call 23 [(.t 78), (.t 79)])⟩, ⟨(some 81), none, (.un .not (.t 80))⟩]) (.cond (.t 81) (.seq (.reg [⟨(some 4), none, (.mov (.c (.bool false)))⟩]) .ret) .skip)) (.seq (.reg [⟨(some 12), none, (.mov (.c (.int .i64 1)))⟩]) (.seq (.reg [⟨(some 82), none, (.mov (.t 9))⟩, ⟨(some 83), none, (.mov (.t 12))⟩, ⟨(some 84), none, (.call 28 [(.t 82), (.t 83)])⟩, ⟨(some 12), none, (.mov (.t 84))⟩]) (.seq (.seq (.reg [⟨(some 85), none, (.mov (.t 12))⟩, ⟨(some 86), none, (.bin false .lss (.t 85) (.c (.int .i64 0)))⟩]) (.cond (.t 86) (.seq (.reg [⟨(some 4), none, (.mov (.c (.bool false)))⟩]) .ret) .skip)) (.seq (.seq (.reg [⟨(some 87), none, (.mov (.t 12))⟩, ⟨(some 88), none, (.mov (.t 11))⟩, ⟨(some 89), none, (.bin false .neq (.t 87) (.t 88))⟩]) (.cond (.t 89) (.seq (.reg [⟨(some 4), none, (.mov (.c (.bool false)))⟩]) .ret) .skip)) (.seq (.reg [⟨(some 4), none, (.mov (.c (.bool true)))⟩]) .ret)))))))))))))))))))))))))))))
theorem code_l_FnExactShellingCounts : fnCode Try.prog [] 7 = some (90, sc_l_FnExactShellingCounts, [(4, none)]) := by kernel_rfl
open Classical in
noncomputable def F_l_FnExactShellingCounts : List V → Option V := F2 dC dL fun c0 c1 => if allR c0.2 ∧ allR c1 then some (.bool true) else none
theorem fn_l_FnExactShellingCounts : FnOk Try.prog 7 F_l_FnExactShellingCounts := by
  have env := ((((((((((envNil_ok (P := Try.prog)).add fn_s_ShellingCounts).add fn_i_ShellingCounts).add fn_l_eqComplex).add fn_l_szComplex).add fn_l_toComplex).add fn_l_toIntS).add fn_l_eqIntS).add fn_l_heldIntS).addl ln_l_markComplex).addl ln_l_markIntS
  refine fn_ok code_l_FnExactShellingCounts mixed env ?_
  intro args r h hb
  obtain ⟨_, _, ⟨n, l⟩, list, rfl, h1, h2, h9⟩ := F2_inv h
  cases dC_inv h1
  cases dL_inv h2
  simp only [Option.ite_none_right_eq_some, Option.some.injEq] at h9
  obtain ⟨⟨hc0, hc1⟩, rfl⟩ := h9
  refine ⟨by simp, fun w0 U0 L0 N0 => ?_⟩
  clear h hb
  have hFS := resSShellingCounts n l list
  have hFI := resIShellingCounts n l list
  have hb0 := bnd0ShellingCounts n l list
  generalize R0ShellingCounts n l list = R0 at *
  by_cases hl1 : 1048576 < list.length
  · have hx : (1048576 : Int) < list.length := by omega
    simp -implicitDefEqProofs [sc_l_FnExactShellingCounts, hx]
    try omega
  have hl4 : list.length ≤ 1048576 := by omega
  have hl4' : ¬ ((1048576 : Int) < list.length) := by omega
  by_cases hl2 : 1048576 < l.length
  · have e : leftOf l.length 1048576 = -1 := by simp only [leftOf]; split <;> omega
    simp -implicitDefEqProofs [sc_l_FnExactShellingCounts, F_l_szComplex, hl1, hl4, hl4', e]
    try omega
  have e : leftOf l.length 1048576 = 1048576 - l.length := by simp only [leftOf]; split <;> omega
  have hl3 : l.length ≤ 1048576 := by omega
  have hl7 : (l.length : Int) ≤ 1048576 := by omega
  have hl8 : ¬ ((1048576 : Int) - l.length < 0) := by omega
  have hm0 := markG_of (l := l) (len := l.length) (k := 1) rfl (by omega) (by omega)
  have hm1 := markG_of (l := list) (len := list.length) (k := (1 + l.length)) rfl (by omega) (by omega)
  have hk0 : ¬ (((1 + l.length) + list.length) < (0 : Int)) := by omega
  have hr0 := markG_of (l := R0) (len := R0.length) (k := 1) rfl (by omega) (by omega)
  have hh0 := heldG_of (k := 1) (n := R0.length) (by omega) (by omega)
  have hn0 : ¬ ((1 + R0.length) < (0 : Int)) := by omega
  simp -implicitDefEqProofs [sc_l_FnExactShellingCounts, F_l_eqComplex, F_l_szComplex, F_l_toComplex, F_l_toIntS, F_l_eqIntS, F_l_heldIntS, G_l_markComplex, G_l_markIntS, ren0, hFS, hFI, hl1, hl4, hl4', e, hl3, hl7, hl8, hm0, hm1, hk0, hr0, hh0, hn0]
  try omega
end Go.Proofs.Ytkfjacclpjgafaa
