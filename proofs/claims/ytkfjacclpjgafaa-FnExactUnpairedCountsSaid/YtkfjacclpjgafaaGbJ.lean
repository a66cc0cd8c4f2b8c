import Derived.Test.YtkfjacclpjgafaaGbH
import Derived.Test.YtkfjacclpjgafaaGbK
namespace Go.Proofs.Ytkfjacclpjgafaa
open Go Go.RowKit
set_option maxRecDepth 1000000
set_option linter.unusedSimpArgs false
set_option linter.unusedVariables false
set_option maxHeartbeats 1000000
noncomputable def R0UnpairedCounts (n : Int) (l : List Int) (list : List (Int × Int)) : List Int := upcL n l list
theorem bnd0UnpairedCounts (n : Int) (l : List Int) (list : List (Int × Int)) : (R0UnpairedCounts n l list).length ≤ 64 := by
  unfold R0UnpairedCounts upcL
  have := topZ_bnd (faceS l)
  split
  · rw [szRow_len]; omega
  · simp
theorem resSUnpairedCounts (n : Int) (l : List Int) (list : List (Int × Int)) : F_s_UnpairedCounts [.agg [.int .i64 n, .list 1 (ints l)], .list 2 (prs list)] = some (.own 1 (ints (R0UnpairedCounts n l list))) := by simp [F_s_UnpairedCounts, R0UnpairedCounts]
theorem resIUnpairedCounts (n : Int) (l : List Int) (list : List (Int × Int)) : F_s_UnpairedCounts [.agg [.int .i64 n, .list 1 (ints l)], .list 2 (prs list)] = some (.own 1 (ints (R0UnpairedCounts n l list))) := resSUnpairedCounts n l list
def sc_l_FnExactUnpairedCounts : SC := (.seq (.reg [⟨(some 2), none, (.box (.t 0))⟩, ⟨(some 4), none, (.mov (.c (.bool false)))⟩]) (.seq (.reg [⟨(some 5), none, (.mov (.c (.int .i64 1048576)))⟩]) (.seq (.reg [⟨(some 14), none, (.ld (some 2) .undef (.t 2))⟩, ⟨(some 15), none, (.mov (.t 5))⟩, ⟨(some 16), none, (.call 17 [(.t 14), (.t 15)])⟩, ⟨(some 5), none, (.mov (.t 16))⟩]) (.seq (.seq (.reg [⟨(some 17), none, (.mov (.t 5))⟩, ⟨(some 18), none, (.bin false .lss (.t 17) (.c (.int .i64 0)))⟩]) (.cond (.t 18) (.seq (.reg [⟨(some 4), none, (.mov (.c (.bool true)))⟩]) .ret) .skip)) (.seq (.reg [⟨(some 19), none, (.mov (.t 1))⟩, ⟨(some 20), none, (.mov (.t 5))⟩, ⟨(some 21), none, (.call 44 [(.t 19), (.t 20)])⟩, ⟨(some 5), none, (.mov (.t 21))⟩]) (.seq (.seq (.reg [⟨(some 22), none, (.mov (.t 5))⟩, ⟨(some 23), none, (.bin false .lss (.t 22) (.c (.int .i64 0)))⟩]) (.cond (.t 23) (.seq (.reg [⟨(some 4), none, (.mov (.c (.bool true)))⟩]) .ret) .skip)) (.seq (.reg [⟨(some 24), none, (.ld (some 2) .undef (.t 2))⟩, ⟨(some 25), none, (.call 19 [(.t 24)])⟩, ⟨(some 26), none, (.mov (.t 1))⟩, ⟨(some 27), none, (.call 46 [(.t 26)])⟩, ⟨(some 28), none, (.call 45 [(.t 25), (.t 27)])⟩, ⟨(some 6), none, (.mov (.t 28))⟩]) (.seq (.reg [⟨(some 29), none, (.ld (some 2) .undef (.t 2))⟩, ⟨(some 30), none, (.call 19 [(.t 29)])⟩, ⟨(some 7), none, (.new [(.int .i64 0), .nil])⟩, ⟨none, none, (.st 2 (.t 7) (.t 30))⟩]) (.seq (.reg [⟨(some 31), none, (.mov (.t 1))⟩, ⟨(some 32), none, (.call 46 [(.t 31)])⟩, ⟨(some 8), none, (.mov (.t 32))⟩]) (.seq (.reg [⟨(some 33), none, (.ld (some 2) .undef (.t 7))⟩, ⟨(some 34), none, (.mov (.t 8))⟩, ⟨(some 35), none, (.call 47 [(.t 33), (.t 34)])⟩, ⟨(some 9), none, (.mov (.t 35))⟩]) (.seq (.seq (.reg [⟨(some 36), none, (.mov (.t 9))⟩, ⟨(some 37), none, (.mov (.t 6))⟩, ⟨(some 38), none, (.call 23 [(.t 36), (.t 37)])⟩, ⟨(some 39), none, (.un .not (.t 38))⟩]) (.cond (.t 39) (.seq (.reg [⟨(some 4), none, (.mov (.c (.bool false)))⟩]) .ret) .skip)) (.seq (.seq (.dreg [⟨⟨(some 40), none, (.ld (some 2) .undef (.t 7))⟩, false, false⟩, ⟨⟨(some 41), none, (.ld (some 2) .undef (.t 2))⟩, false, false⟩, ⟨⟨(some 42), none, (.call 19 [(.t 41)])⟩, false, false⟩, ⟨⟨(some 43), none, (.call 22 [(.t 40), (.t 42)])⟩, false, false⟩, ⟨⟨(some 44), none, (.un .not (.t 43))⟩, false, false⟩]) (.cond (.t 44) (.seq (.reg [⟨(some 4), none, (.mov (.c (.bool false)))⟩]) .ret) .skip)) (.seq (.seq (.reg [⟨(some 45), none, (.mov (.t 8))⟩, ⟨(some 46), none, (.mov (.t 1))⟩, ⟨(some 47), none, (.call 46 [(.t 46)])⟩, ⟨(some 48), none, (.call 48 [(.t 45), (.t 47)])⟩, ⟨(some 49), none, (.un .not (.t 48))⟩]) (.cond (.t 49) (.seq (.reg [⟨(some 4), none, (.mov (.c (.bool false)))⟩]) .ret) .skip)) (.seq (.reg [⟨(some 10), none, (.mov (.c (.int .i64 1)))⟩]) (.seq (.reg [⟨(some 50), none, (.ld (some 2) .undef (.t 7))⟩, ⟨(some 51), none, (.mov (.t 10))⟩, ⟨(some 52), none, (.call 26 [(.t 50), (.t 51)])⟩, ⟨(some 10), none, (.mov (.t 52))⟩]) (.seq (.reg [⟨(some 53), none, (.mov (.t 8))⟩, ⟨(some 54), none, (.mov (.t 10))⟩, ⟨(some 55), none, (.call 49 [(.t 53), (.t 54)])⟩, ⟨(some 10), none, (.mov (.t 55))⟩]) (.seq (.seq (.reg [⟨(some 56), none, (.mov (.t 10))⟩, ⟨(some 57), none, (.bin false .lss (.t 56) (.c (.int .i64 0)))⟩, ⟨(some 58), none, (.mov (.t 57))⟩, ⟨(some 59), (some (58, false)), (.mov (.t 9))⟩, ⟨(some 60), (some (58, false)), (.mov (.t 6))⟩, ⟨(some 61), (some (58, false)), (.call 23 [(.t 59), (.t 60)])⟩, ⟨(some 62), (some (58, false)), (.un .not (.t 61))⟩, ⟨(some 63), none, (.pick (.t 58) (.c (.bool true)) (.t 62))⟩]) (.cond (.t 63) (.seq (.reg [⟨(some 4), none, (.mov (.c (.bool false)))⟩]) .ret) .skip)) (.seq (.reg [⟨(some 11), none, (.mov (.c (.int .i64 1)))⟩]) (.seq (.reg [⟨(some 64), none, (.mov (.t 9))⟩, ⟨(some 65), none, (.mov (.t 11))⟩, ⟨(some 66), none, (.call 27 [(.t 64), (.t 65)])⟩, ⟨(some 11), none, (.mov (.t 66))⟩]) (.seq (.reg [⟨(some 12), none, (.mov (.c (.int .i64 1)))⟩]) (.seq (.reg [⟨(some 67), none, (.mov (.t 9))⟩, ⟨(some 68), none, (.mov (.t 12))⟩, ⟨(some 69), none, (.call 28 [(.t 67), (.t 68)])⟩, ⟨(some 12), none, (.mov (.t 69))⟩]) (.seq (.seq (.reg [⟨(some 70), none, (.mov (.t 12))⟩, ⟨(some 71), none, (.bin false .lss (.t 70) (.c (.int .i64 0)))⟩]) (.cond (.t 71) (.seq (.reg [⟨(some 4), none, (.mov (.c (.bool false)))⟩]) .ret) .skip)) (.seq (.seq (.reg [⟨(some 72), none, (.mov (.t 12))⟩, ⟨(some 73), none, (.mov (.t 11))⟩, ⟨(some 74), none, (.bin false .neq (.t 72) (.t 73))⟩]) (.cond (.t 74) (.seq (.reg [⟨(some 4), none, (.mov (.c (.bool false)))⟩]) .ret) .skip)) (.seq (.reg [⟨(some 75), none, (.ld (some 2) .undef (.t 2))⟩, ⟨(some 76), none, (.call 19 [(.t 75)])⟩, ⟨(some 77), none, (.mov (.t 1))⟩, ⟨(some 78), none, (.call 46 [(.t 77)])⟩, ⟨(some 79), none, (.call 47 [(.t 76), (.t 78)])⟩, ⟨(some 13), none, (.mov (.t 79))⟩]) (.seq (.seq (.reg [⟨(some 80), none, (.mov (.t 13))⟩, ⟨(some 81), none, (.mov (.t 6))⟩, ⟨(some 82), none, (.call 23 [(.t 80), (.t 81)])⟩, ⟨(some 83), none, (.un .not (.t 82))⟩]) (.cond (.t 83) (.seq (.reg [⟨(some 4), none, (.mov (.c (.bool false)))⟩]) .ret) .skip)) (.seq (.reg [⟨(some 12), none, (.mov (.c (.int .i64 1)))⟩]) (.seq (.reg [⟨(some 84), none, (.mov (.t 9))⟩, ⟨(some 85), none, (.mov (.t 12))⟩, ⟨(some 86), none, (.call 28 [(.t 84), (.t 85)])⟩, ⟨(some 12), none, (.mov (.t 86))⟩]) (.seq (.seq (.reg [⟨(some 87), none, (.mov (.t 12))⟩, ⟨(some 88), none, (.bin false .lss (.t 87) (.c (.int .i64 0)))⟩]) (.cond (.t 88) (.seq (.reg [⟨(some 4), none, (.mov (.c (.bool false)))⟩]) .ret) .skip)) (.seq (.seq (.reg [⟨(some 89), none, (.mov (.t 12))⟩, ⟨(some 90), none, (.mov (.t 11))⟩, ⟨(some 91), none, (.bin false .neq (.t 89) (.t 90))⟩]) (.cond (.t 91) (.seq (.reg [⟨(some 4), none, (.mov (.c (.bool false)))⟩]) .ret) .skip)) (.seq (.reg [⟨(some 4), none, (.mov (.c (.bool true)))⟩]) .ret))))))))))))))))))))))))))))))
theorem code_l_FnExactUnpairedCounts : fnCode Try.prog [] 12 = some (92, sc_l_FnExactUnpairedCounts, [(4, none)]) := by kernel_rfl
open Classical in
noncomputable def F_l_FnExactUnpairedCounts : List V → Option V := F2 dC dP fun c0 c1 => if allR c0.2 ∧ allRP c1 then some (.bool true) else none
theorem fn_l_FnExactUnpairedCounts : FnOk Try.prog 12 F_l_FnExactUnpairedCounts := by
  have env := (((((((((((((envNil_ok (P := Try.prog)).add fn_s_UnpairedCounts).add fn_i_UnpairedCounts).add fn_l_eqComplex).add fn_l_szComplex).add fn_l_toComplex).add fn_l_eqIntS).add fn_l_szPairS).add fn_l_toPairS).add fn_l_eqPairS).add fn_l_heldIntS).addl ln_l_markComplex).addl ln_l_markPairS).addl ln_l_markIntS
  refine fn_ok code_l_FnExactUnpairedCounts mixed env ?_
  intro args r h hb
  obtain ⟨_, _, ⟨n, l⟩, list, rfl, h1, h2, h9⟩ := F2_inv h
  cases dC_inv h1
  cases dP_inv h2
  simp only [Option.ite_none_right_eq_some, Option.some.injEq] at h9
  obtain ⟨⟨hc0, hc1⟩, rfl⟩ := h9
  refine ⟨by simp, fun w0 U0 L0 N0 => ?_⟩
  clear h hb
  have hFS := resSUnpairedCounts n l list
  have hFI := resIUnpairedCounts n l list
  have hb0 := bnd0UnpairedCounts n l list
  generalize R0UnpairedCounts n l list = R0 at *
  by_cases hl2 : 1048576 < l.length
  · have e : leftOf l.length 1048576 = -1 := by simp only [leftOf]; split <;> omega
    simp -implicitDefEqProofs [sc_l_FnExactUnpairedCounts, F_l_szComplex, e]
    try omega
  have e : leftOf l.length 1048576 = 1048576 - l.length := by simp only [leftOf]; split <;> omega
  have hl3 : l.length ≤ 1048576 := by omega
  have hl7 : (l.length : Int) ≤ 1048576 := by omega
  have hl8 : ¬ ((1048576 : Int) - l.length < 0) := by omega
  have hl9 : (1048576 : Int) - l.length ≤ 1048576 := by omega
  by_cases hl5 : (1048576 : Int) - l.length < list.length
  · have e2 : leftOf list.length (1048576 - l.length) = -1 := by simp only [leftOf]; split <;> omega
    simp -implicitDefEqProofs [sc_l_FnExactUnpairedCounts, F_l_szComplex, F_l_szPairS, e, e2, hl3, hl7, hl9]
    try omega
  have e2 : leftOf list.length (1048576 - l.length) = 1048576 - l.length - list.length := by simp only [leftOf]; split <;> omega
  have hl6 : list.length ≤ 1048576 := by omega
  have hla : ¬ ((1048576 : Int) - l.length - list.length < 0) := by omega
  have hm0 := markG_of (l := l) (len := l.length) (k := 1) rfl (by omega) (by omega)
  have hm1 := markPG_of (l := list) (len := list.length) (k := (1 + l.length)) rfl (by omega) (by omega)
  have hk0 : ¬ (((1 + l.length) + 2 * list.length) < (0 : Int)) := by omega
  have hr0 := markG_of (l := R0) (len := R0.length) (k := 1) rfl (by omega) (by omega)
  have hh0 := heldG_of (k := 1) (n := R0.length) (by omega) (by omega)
  have hn0 : ¬ ((1 + R0.length) < (0 : Int)) := by omega
  simp -implicitDefEqProofs [sc_l_FnExactUnpairedCounts, F_l_eqComplex, F_l_szComplex, F_l_toComplex, F_l_eqIntS, F_l_szPairS, F_l_toPairS, F_l_eqPairS, F_l_heldIntS, G_l_markComplex, G_l_markPairS, G_l_markIntS, ren0, hFS, hFI, e, hl3, hl7, hl8, hl9, e2, hl6, hla, hm0, hm1, hk0, hr0, hh0, hn0]
  try omega
end Go.Proofs.Ytkfjacclpjgafaa
