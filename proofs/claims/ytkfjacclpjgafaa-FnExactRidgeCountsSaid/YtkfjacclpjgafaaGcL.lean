import Derived.Test.YtkfjacclpjgafaaGcI
import Derived.Test.YtkfjacclpjgafaaKF
namespace Go.Proofs.Ytkfjacclpjgafaa
open Go Go.RowKit
set_option maxRecDepth 1000000
set_option linter.unusedSimpArgs false
set_option linter.unusedVariables false
set_option maxHeartbeats 1000000
noncomputable def R0RidgeCounts (n : Int) (l : List Int) : List Int := rcL n l
theorem bnd0RidgeCounts (n : Int) (l : List Int) : (R0RidgeCounts n l).length ≤ 64 := by
  unfold R0RidgeCounts rcL
  rw [List.length_map]
  exact (rdgL_ok n l).2
theorem resSRidgeCounts (n : Int) (l : List Int) : F_s_RidgeCounts [.agg [.int .i64 n, .list 1 (ints l)]] = some (.own 1 (ints (R0RidgeCounts n l))) := by simp [F_s_RidgeCounts, R0RidgeCounts]
theorem resIRidgeCounts (n : Int) (l : List Int) : F_s_RidgeCounts [.agg [.int .i64 n, .list 1 (ints l)]] = some (.own 1 (ints (R0RidgeCounts n l))) := resSRidgeCounts n l
def sc_l_FnExactRidgeCounts : SC := (.seq (.reg [⟨(some 1), none, (.box (.t 0))⟩, ⟨(some 2), none, (.mov (.c (.bool false)))⟩]) (.seq (.reg [⟨(some 3), none, (.mov (.c (.int .i64 1048576)))⟩]) (.seq (.reg [⟨(some 11), none, (.ld (some 2) .undef (.t 1))⟩, ⟨(some 12), none, (.mov (.t 3))⟩, ⟨(some 13), none, (.call 17 [(.t 11), (.t 12)])⟩, ⟨(some 3), none, (.mov (.t 13))⟩]) (.seq (.seq (.reg [⟨(some 14), none, (.mov (.t 3))⟩, ⟨(some 15), none, (.bin false .lss (.t 14) (.c (.int .i64 0)))⟩]) (.cond (.t 15) (.seq (.reg [⟨(some 2), none, (.mov (.c (.bool true)))⟩]) .ret) .skip)) (.seq (.reg [⟨(some 16), none, (.ld (some 2) .undef (.t 1))⟩, ⟨(some 17), none, (.call 19 [(.t 16)])⟩, ⟨(some 18), none, (.call 24 [(.t 17)])⟩, ⟨(some 4), none, (.mov (.t 18))⟩]) (.seq (.reg [⟨(some 19), none, (.ld (some 2) .undef (.t 1))⟩, ⟨(some 20), none, (.call 19 [(.t 19)])⟩, ⟨(some 5), none, (.new [(.int .i64 0), .nil])⟩, ⟨none, none, (.st 2 (.t 5) (.t 20))⟩]) (.seq (.reg [⟨(some 21), none, (.ld (some 2) .undef (.t 5))⟩, ⟨(some 22), none, (.call 25 [(.t 21)])⟩, ⟨(some 6), none, (.mov (.t 22))⟩]) (.seq (.seq (.reg [⟨(some 23), none, (.mov (.t 6))⟩, ⟨(some 24), none, (.mov (.t 4))⟩, ⟨(some 25), none, (.call 23 [(.t 23), (.t 24)])⟩, ⟨(some 26), none, (.un .not (.t 25))⟩]) (.cond (.t 26) (.seq (.reg [⟨(some 2), none, (.mov (.c (.bool false)))⟩]) .ret) .skip)) (.seq (.seq (.dreg [⟨⟨(some 27), none, (.ld (some 2) .undef (.t 5))⟩, false, false⟩, ⟨⟨(some 28), none, (.ld (some 2) .undef (.t 1))⟩, false, false⟩, ⟨⟨(some 29), none, (.call 19 [(.t 28)])⟩, false, false⟩, ⟨⟨(some 30), none, (.call 22 [(.t 27), (.t 29)])⟩, false, false⟩, ⟨⟨(some 31), none, (.un .not (.t 30))⟩, false, false⟩]) (.cond (.t 31) (.seq (.reg [⟨(some 2), none, (.mov (.c (.bool false)))⟩]) .ret) .skip)) (.seq (.reg [⟨(some 7), none, (.mov (.c (.int .i64 1)))⟩]) (.seq (.reg [⟨(some 32), none, (.ld (some 2) .undef (.t 5))⟩, ⟨(some 33), none, (.mov (.t 7))⟩, ⟨(some 34), none, (.call 26 [(.t 32), (.t 33)])⟩, ⟨(some 7), none, (.mov (.t 34))⟩]) (.seq (.seq (.reg [⟨(some 35), none, (.mov (.t 7))⟩, ⟨(some 36), none, (.bin false .lss (.t 35) (.c (.int .i64 0)))⟩, ⟨(some 37), none, (.mov (.t 36))⟩, ⟨(some 38), (some (37, false)), (.mov (.t 6))⟩, ⟨(some 39), (some (37, false)), (.mov (.t 4))⟩, ⟨(some 40), (some (37, false)), (.call 23 [(.t 38), (.t 39)])⟩, ⟨(some 41), (some (37, false)), (.un .not (.t 40))⟩, ⟨(some 42), none, (.pick (.t 37) (.c (.bool true)) (.t 41))⟩]) (.cond (.t 42) (.seq (.reg [⟨(some 2), none, (.mov (.c (.bool false)))⟩]) .ret) .skip)) (.seq (.reg [⟨(some 8), none, (.mov (.c (.int .i64 1)))⟩]) (.seq (.reg [⟨(some 43), none, (.mov (.t 6))⟩, ⟨(some 44), none, (.mov (.t 8))⟩, ⟨(some 45), none, (.call 27 [(.t 43), (.t 44)])⟩, ⟨(some 8), none, (.mov (.t 45))⟩]) (.seq (.reg [⟨(some 9), none, (.mov (.c (.int .i64 1)))⟩]) (.seq (.reg [⟨(some 46), none, (.mov (.t 6))⟩, ⟨(some 47), none, (.mov (.t 9))⟩, ⟨(some 48), none, (.call 28 [(.t 46), (.t 47)])⟩, ⟨(some 9), none, (.mov (.t 48))⟩]) (.seq (.seq (.reg [⟨(some 49), none, (.mov (.t 9))⟩, ⟨(some 50), none, (.bin false .lss (.t 49) (.c (.int .i64 0)))⟩]) (.cond (.t 50) (.seq (.reg [⟨(some 2), none, (.mov (.c (.bool false)))⟩]) .ret) .skip)) (.seq (.seq (.reg [⟨(some 51), none, (.mov (.t 9))⟩, ⟨(some 52), none, (.mov (.t 8))⟩, ⟨(some 53), none, (.bin false .neq (.t 51) (.t 52))⟩]) (.cond (.t 53) (.seq (.reg [⟨(some 2), none, (.mov (.c (.bool false)))⟩]) .ret) .skip)) (.seq (.reg [⟨(some 54), none, (.ld (some 2) .undef (.t 1))⟩, ⟨(some 55), none, (.call 19 [(.t 54)])⟩, ⟨(some 56), none, (.call 25 [(.t 55)])⟩, ⟨(some 10), none, (.mov (.t 56))⟩]) (.seq (.seq (.reg [⟨(some 57), none, (.mov (.t 10))⟩, ⟨(some 58), none, (.mov (.t 4))⟩, ⟨(some 59), none, (.call 23 [(.t 57), (.t 58)])⟩, ⟨(some 60), none, (.un .not (.t 59))⟩]) (.cond (.t 60) (.seq (.reg [⟨(some 2), none, (.mov (.c (.bool false)))⟩]) .ret) .skip)) (.seq (.reg [⟨(some 9), none, (.mov (.c (.int .i64 1)))⟩]) (.seq (.reg [⟨(some 61), none, (.mov (.t 6))⟩, ⟨(some 62), none, (.mov (.t 9))⟩, ⟨(some 63), none, (.call 28 [(.t 61), (.t 62)])⟩, ⟨(some 9), none, (.mov (.t 63))⟩]) (.seq (.seq (.reg [⟨(some 64), none, (.mov (.t 9))⟩, ⟨(some 65), none, (.bin false .lss (.t 64) (.c (.int .i64 0)))⟩]) (.cond (.t 65) (.seq (.reg [⟨(some 2), none, (.mov (.c (.bool false)))⟩]) .ret) .skip)) (.seq (.seq (.reg [⟨(some 66), none, (.mov (.t 9))⟩, ⟨(some 67), none, (.mov (.t 8))⟩, ⟨(some 68), none, (.bin false .neq (.t 66) (.t 67))⟩]) (.cond (.t 68) (.seq (.reg [⟨(some 2), none, (.mov (.c (.bool false)))⟩]) .ret) .skip)) (.seq (.reg [⟨(some 2), none, (.mov (.c (.bool true)))⟩]) .ret)))))))))))))))))))))))))
theorem code_l_FnExactRidgeCounts : fnCode Try.prog [] 4 = some (69, sc_l_FnExactRidgeCounts, [(2, none)]) := by kernel_rfl
open Classical in
noncomputable def F_l_FnExactRidgeCounts : List V → Option V := F1 dC fun c0 => if allR c0.2 then some (.bool true) else none
theorem fn_l_FnExactRidgeCounts : FnOk Try.prog 4 F_l_FnExactRidgeCounts := by
  have env := (((((((((envNil_ok (P := Try.prog)).add fn_s_RidgeCounts).add fn_i_RidgeCounts).add fn_l_eqComplex).add fn_l_szComplex).add fn_l_toComplex).add fn_l_eqIntS).add fn_l_heldIntS).addl ln_l_markComplex).addl ln_l_markIntS
  refine fn_ok code_l_FnExactRidgeCounts mixed env ?_
  intro args r h hb
  obtain ⟨_, ⟨n, l⟩, rfl, h1, h9⟩ := F1_inv h
  cases dC_inv h1
  simp only [Option.ite_none_right_eq_some, Option.some.injEq] at h9
  obtain ⟨hc0, rfl⟩ := h9
  refine ⟨by simp, fun w0 U0 L0 N0 => ?_⟩
  clear h hb
  have hFS := resSRidgeCounts n l
  have hFI := resIRidgeCounts n l
  have hb0 := bnd0RidgeCounts n l
  generalize R0RidgeCounts n l = R0 at *
  by_cases hl2 : 1048576 < l.length
  · have e : leftOf l.length 1048576 = -1 := by simp only [leftOf]; split <;> omega
    simp -implicitDefEqProofs [sc_l_FnExactRidgeCounts, F_l_szComplex, e]
    try omega
  have e : leftOf l.length 1048576 = 1048576 - l.length := by simp only [leftOf]; split <;> omega
  have hl3 : l.length ≤ 1048576 := by omega
  have hl7 : (l.length : Int) ≤ 1048576 := by omega
  have hl8 : ¬ ((1048576 : Int) - l.length < 0) := by omega
  have hm0 := markG_of (l := l) (len := l.length) (k := 1) rfl (by omega) (by omega)
  have hk0 : ¬ ((1 + l.length) < (0 : Int)) := by omega
  have hr0 := markG_of (l := R0) (len := R0.length) (k := 1) rfl (by omega) (by omega)
  have hh0 := heldG_of (k := 1) (n := R0.length) (by omega) (by omega)
  have hn0 : ¬ ((1 + R0.length) < (0 : Int)) := by omega
  simp -implicitDefEqProofs [sc_l_FnExactRidgeCounts, F_l_eqComplex, F_l_szComplex, F_l_toComplex, F_l_eqIntS, F_l_heldIntS, G_l_markComplex, G_l_markIntS, ren0, hFS, hFI, e, hl3, hl7, hl8, hm0, hk0, hr0, hh0, hn0]
  try omega
end Go.Proofs.Ytkfjacclpjgafaa
