import Derived.Test.YtkfjacclpjgafaaGaI
import Derived.Test.YtkfjacclpjgafaaGaJ
namespace Go.Proofs.Ytkfjacclpjgafaa
open Go Go.RowKit
set_option maxRecDepth 1000000
set_option linter.unusedSimpArgs false
set_option linter.unusedVariables false
set_option maxHeartbeats 1000000
noncomputable def R0CollapseAt (n : Int) (l : List Int) (s : Int) : List Int := colL n l s
noncomputable def P0CollapseAt (n : Int) (l : List Int) (s : Int) : Int := colN n l s
noncomputable def R1CollapseAt (n : Int) (l : List Int) (s : Int) : Bool := dec (colP n l s)
theorem bnd0CollapseAt (n : Int) (l : List Int) (s : Int) : (R0CollapseAt n l s).length ≤ 64 := by
  unfold R0CollapseAt colL
  split
  · exact setsOf_len _
  · simp
theorem resSCollapseAt (n : Int) (l : List Int) (s : Int) : F_s_CollapseAt [.agg [.int .i64 n, .list 1 (ints l)], .int .i64 s] = some (.tup [.agg [.int .i64 (P0CollapseAt n l s), .own 1 (ints (R0CollapseAt n l s))], .bool (R1CollapseAt n l s)]) := by simp [F_s_CollapseAt, R0CollapseAt, P0CollapseAt, R1CollapseAt]
theorem resICollapseAt (n : Int) (l : List Int) (s : Int) : F_s_CollapseAt [.agg [.int .i64 n, .list 1 (ints l)], .int .i64 s] = some (.tup [.agg [.int .i64 (P0CollapseAt n l s), .own 1 (ints (R0CollapseAt n l s))], .bool (R1CollapseAt n l s)]) := resSCollapseAt n l s
def sc_l_FnExactCollapseAt : SC := (.seq (.reg [⟨(some 2), none, (.box (.t 0))⟩, ⟨(some 4), none, (.mov (.c (.bool false)))⟩]) (.seq (.reg [⟨(some 5), none, (.mov (.c (.int .i64 1048576)))⟩]) (.seq (.reg [⟨(some 16), none, (.ld (some 2) .undef (.t 2))⟩, ⟨(some 17), none, (.mov (.t 5))⟩, ⟨(some 18), none, (.call 17 [(.t 16), (.t 17)])⟩, ⟨(some 5), none, (.mov (.t 18))⟩]) (.seq (.seq (.reg [⟨(some 19), none, (.mov (.t 5))⟩, ⟨(some 20), none, (.bin false .lss (.t 19) (.c (.int .i64 0)))⟩]) (.cond (.t 20) (.seq (.reg [⟨(some 4), none, (.mov (.c (.bool true)))⟩]) .ret) .skip)) (.seq (.reg [⟨(some 22), none, (.ld (some 2) .undef (.t 2))⟩, ⟨(some 23), none, (.call 19 [(.t 22)])⟩, ⟨(some 24), none, (.mov (.t 1))⟩, ⟨(some 25), none, (.call 31 [(.t 23), (.t 24)])⟩, ⟨(some 21), none, (.mov (.t 25))⟩, ⟨(some 26), none, (.ext 0 (.t 21))⟩, ⟨(some 27), none, (.ext 1 (.t 21))⟩, ⟨(some 6), none, (.new [(.int .i64 0), .nil])⟩, ⟨none, none, (.st 2 (.t 6) (.t 26))⟩, ⟨(some 7), none, (.mov (.t 27))⟩]) (.seq (.reg [⟨(some 28), none, (.ld (some 2) .undef (.t 2))⟩, ⟨(some 29), none, (.call 19 [(.t 28)])⟩, ⟨(some 8), none, (.new [(.int .i64 0), .nil])⟩, ⟨none, none, (.st 2 (.t 8) (.t 29))⟩]) (.seq (.reg [⟨(some 31), none, (.ld (some 2) .undef (.t 8))⟩, ⟨(some 32), none, (.mov (.t 1))⟩, ⟨(some 33), none, (.call 32 [(.t 31), (.t 32)])⟩, ⟨(some 30), none, (.mov (.t 33))⟩, ⟨(some 34), none, (.ext 0 (.t 30))⟩, ⟨(some 35), none, (.ext 1 (.t 30))⟩, ⟨(some 9), none, (.new [(.int .i64 0), .nil])⟩, ⟨none, none, (.st 2 (.t 9) (.t 34))⟩, ⟨(some 10), none, (.mov (.t 35))⟩]) (.seq (.seq (.reg [⟨(some 36), none, (.ld (some 2) .undef (.t 9))⟩, ⟨(some 37), none, (.ld (some 2) .undef (.t 6))⟩, ⟨(some 38), none, (.call 22 [(.t 36), (.t 37)])⟩, ⟨(some 39), none, (.un .not (.t 38))⟩, ⟨(some 40), none, (.mov (.t 39))⟩, ⟨(some 41), (some (40, false)), (.mov (.t 10))⟩, ⟨(some 42), (some (40, false)), (.mov (.t 7))⟩, ⟨(some 43), (some (40, false)), (.bin true .neq (.t 41) (.t 42))⟩, ⟨(some 44), none, (.pick (.t 40) (.c (.bool true)) (.t 43))⟩]) (.cond (.t 44) (.seq (.reg [⟨(some 4), none, (.mov (.c (.bool false)))⟩]) .ret) .skip)) (.seq (.seq (.dreg [⟨⟨(some 45), none, (.ld (some 2) .undef (.t 8))⟩, false, false⟩, ⟨⟨(some 46), none, (.ld (some 2) .undef (.t 2))⟩, false, false⟩, ⟨⟨(some 47), none, (.call 19 [(.t 46)])⟩, false, false⟩, ⟨⟨(some 48), none, (.call 22 [(.t 45), (.t 47)])⟩, false, false⟩, ⟨⟨(some 49), none, (.un .not (.t 48))⟩, false, false⟩]) (.cond (.t 49) (.seq (.reg [⟨(some 4), none, (.mov (.c (.bool false)))⟩]) .ret) .skip)) (.seq (.reg [⟨(some 11), none, (.mov (.c (.int .i64 1)))⟩]) (.seq (.reg [⟨(some 50), none, (.ld (some 2) .undef (.t 8))⟩, ⟨(some 51), none, (.mov (.t 11))⟩, ⟨(some 52), none, (.call 26 [(.t 50), (.t 51)])⟩, ⟨(some 11), none, (.mov (.t 52))⟩]) (.seq (.seq (.reg [⟨(some 53), none, (.mov (.t 11))⟩, ⟨(some 54), none, (.bin false .lss (.t 53) (.c (.int .i64 0)))⟩, ⟨(some 55), none, (.mov (.t 54))⟩, ⟨(some 56), (some (55, false)), (.ld (some 2) .undef (.t 9))⟩, ⟨(some 57), (some (55, false)), (.ld (some 2) .undef (.t 6))⟩, ⟨(some 58), (some (55, false)), (.call 22 [(.t 56), (.t 57)])⟩, ⟨(some 59), (some (55, false)), (.un .not (.t 58))⟩, ⟨(some 60), none, (.pick (.t 55) (.c (.bool true)) (.t 59))⟩, ⟨(some 61), none, (.mov (.t 60))⟩, ⟨(some 62), (some (61, false)), (.mov (.t 10))⟩, ⟨(some 63), (some (61, false)), (.mov (.t 7))⟩, ⟨(some 64), (some (61, false)), (.bin true .neq (.t 62) (.t 63))⟩, ⟨(some 65), none, (.pick (.t 61) (.c (.bool true)) (.t 64))⟩]) (.cond (.t 65) (.seq (.reg [⟨(some 4), none, (.mov (.c (.bool false)))⟩]) .ret) .skip)) (.seq (.reg [⟨(some 12), none, (.mov (.c (.int .i64 1)))⟩]) (.seq (.reg [⟨(some 66), none, (.ld (some 2) .undef (.t 9))⟩, ⟨(some 67), none, (.mov (.t 12))⟩, ⟨(some 68), none, (.call 26 [(.t 66), (.t 67)])⟩, ⟨(some 12), none, (.mov (.t 68))⟩]) (.seq (.reg [⟨(some 13), none, (.mov (.c (.int .i64 1)))⟩]) (.seq (.reg [⟨(some 69), none, (.ld (some 2) .undef (.t 9))⟩, ⟨(some 70), none, (.mov (.t 13))⟩, ⟨(some 71), none, (.call 33 [(.t 69), (.t 70)])⟩, ⟨(some 13), none, (.mov (.t 71))⟩]) (.seq (.seq (.reg [⟨(some 72), none, (.mov (.t 13))⟩, ⟨(some 73), none, (.bin false .lss (.t 72) (.c (.int .i64 0)))⟩]) (.cond (.t 73) (.seq (.reg [⟨(some 4), none, (.mov (.c (.bool false)))⟩]) .ret) .skip)) (.seq (.seq (.reg [⟨(some 74), none, (.mov (.t 13))⟩, ⟨(some 75), none, (.mov (.t 12))⟩, ⟨(some 76), none, (.bin false .neq (.t 74) (.t 75))⟩]) (.cond (.t 76) (.seq (.reg [⟨(some 4), none, (.mov (.c (.bool false)))⟩]) .ret) .skip)) (.seq (.reg [⟨(some 78), none, (.ld (some 2) .undef (.t 2))⟩, ⟨(some 79), none, (.call 19 [(.t 78)])⟩, ⟨(some 80), none, (.mov (.t 1))⟩, ⟨(some 81), none, (.call 32 [(.t 79), (.t 80)])⟩, ⟨(some 77), none, (.mov (.t 81))⟩, ⟨(some 82), none, (.ext 0 (.t 77))⟩, ⟨(some 83), none, (.ext 1 (.t 77))⟩, ⟨(some 14), none, (.new [(.int .i64 0), .nil])⟩, ⟨none, none, (.st 2 (.t 14) (.t 82))⟩, ⟨(some 15), none, (.mov (.t 83))⟩]) (.seq (.seq (.reg [⟨(some 84), none, (.ld (some 2) .undef (.t 14))⟩, ⟨(some 85), none, (.ld (some 2) .undef (.t 6))⟩, ⟨(some 86), none, (.call 22 [(.t 84), (.t 85)])⟩, ⟨(some 87), none, (.un .not (.t 86))⟩, ⟨(some 88), none, (.mov (.t 87))⟩, ⟨(some 89), (some (88, false)), (.mov (.t 15))⟩, ⟨(some 90), (some (88, false)), (.mov (.t 7))⟩, ⟨(some 91), (some (88, false)), (.bin true .neq (.t 89) (.t 90))⟩, ⟨(some 92), none, (.pick (.t 88) (.c (.bool true)) (.t 91))⟩]) (.cond (.t 92) (.seq (.reg [⟨(some 4), none, (.mov (.c (.bool false)))⟩]) .ret) .skip)) (.seq (.reg [⟨(some 13), none, (.mov (.c (.int .i64 1)))⟩]) (.seq (.reg [⟨(some 93), none, (.ld (some 2) .undef (.t 9))⟩, ⟨(some 94), none, (.mov (.t 13))⟩, ⟨(some 95), none, (.call 33 [(.t 93), (.t 94)])⟩, ⟨(some 13), none, (.mov (.t 95))⟩]) (.seq (.seq (.reg [⟨(some 96), none, (.mov (.t 13))⟩, ⟨(some 97), none, (.bin false .lss (.t 96) (.c (.int .i64 0)))⟩]) (.cond (.t 97) (.seq (.reg [⟨(some 4), none, (.mov (.c (.bool false)))⟩]) .ret) .skip)) (.seq (.seq (.reg [⟨(some 98), none, (.mov (.t 13))⟩, ⟨(some 99), none, (.mov (.t 12))⟩, ⟨(some 100), none, (.bin false .neq (.t 98) (.t 99))⟩]) (.cond (.t 100) (.seq (.reg [⟨(some 4), none, (.mov (.c (.bool false)))⟩]) .ret) .skip)) (.seq (.reg [⟨(some 4), none, (.mov (.c (.bool true)))⟩]) .ret)))))))))))))))))))))))))
theorem code_l_FnExactCollapseAt : fnCode Try.prog [] 6 = some (101, sc_l_FnExactCollapseAt, [(4, none)]) := by kernel_rfl
open Classical in
noncomputable def F_l_FnExactCollapseAt : List V → Option V := F2 dC dI fun c0 c1 => if allR c0.2 ∧ inR c1 then some (.bool true) else none
theorem fn_l_FnExactCollapseAt : FnOk Try.prog 6 F_l_FnExactCollapseAt := by
  have env := (((((((envNil_ok (P := Try.prog)).add fn_s_CollapseAt).add fn_i_CollapseAt).add fn_l_eqComplex).add fn_l_szComplex).add fn_l_toComplex).add fn_l_heldComplex).addl ln_l_markComplex
  refine fn_ok code_l_FnExactCollapseAt mixed env ?_
  intro args r h hb
  obtain ⟨_, _, ⟨n, l⟩, x1, rfl, h1, h2, h9⟩ := F2_inv h
  cases dC_inv h1
  cases dI_inv h2
  simp only [Option.ite_none_right_eq_some, Option.some.injEq] at h9
  obtain ⟨⟨hc0, hc1⟩, rfl⟩ := h9
  refine ⟨by simp, fun w0 U0 L0 N0 => ?_⟩
  clear h hb
  have hFS := resSCollapseAt n l x1
  have hFI := resICollapseAt n l x1
  have hb0 := bnd0CollapseAt n l x1
  generalize P0CollapseAt n l x1 = P0 at *
  generalize R0CollapseAt n l x1 = R0 at *
  generalize R1CollapseAt n l x1 = R1 at *
  by_cases hl2 : 1048576 < l.length
  · have e : leftOf l.length 1048576 = -1 := by simp only [leftOf]; split <;> omega
    simp -implicitDefEqProofs [sc_l_FnExactCollapseAt, F_l_szComplex, e]
    try omega
  have e : leftOf l.length 1048576 = 1048576 - l.length := by simp only [leftOf]; split <;> omega
  have hl3 : l.length ≤ 1048576 := by omega
  have hl7 : (l.length : Int) ≤ 1048576 := by omega
  have hl8 : ¬ ((1048576 : Int) - l.length < 0) := by omega
  have hm0 := markG_of (l := l) (len := l.length) (k := 1) rfl (by omega) (by omega)
  have hk0 : ¬ ((1 + l.length) < (0 : Int)) := by omega
  have hr0 := markG_of (l := R0) (len := R0.length) (k := 1) rfl (by omega) (by omega)
  have hh0 := heldG_of (k := 1) (n := R0.length) (by omega) (by omega)
  have hn0 : ¬ ((1 + R0.length) < (0 : Int)) := by omega
  simp -implicitDefEqProofs [sc_l_FnExactCollapseAt, F_l_eqComplex, F_l_szComplex, F_l_toComplex, F_l_heldComplex, G_l_markComplex, ren0, hFS, hFI, e, hl3, hl7, hl8, hm0, hk0, hr0, hh0, hn0]
  try omega
end Go.Proofs.Ytkfjacclpjgafaa
