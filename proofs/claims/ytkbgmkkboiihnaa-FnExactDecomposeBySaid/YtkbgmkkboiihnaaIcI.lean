import Derived.Test.YtkbgmkkboiihnaaIcH
import Derived.Test.YtkbgmkkboiihnaaKF
namespace Go.Proofs.Ytkbgmkkboiihnaa
open Go Go.RowKit
set_option maxRecDepth 1000000
set_option linter.unusedSimpArgs false
set_option linter.unusedVariables false
set_option maxHeartbeats 1000000
noncomputable def R0DecomposeBy (n : Int) (l : List Int) : List Int := dcbL n l
noncomputable def R1DecomposeBy (n : Int) (l : List Int) : Bool := dec (decP n l)
theorem bnd0DecomposeBy (n : Int) (l : List Int) : (R0DecomposeBy n l).length ≤ 64 := dcbL_len n l
theorem resSDecomposeBy (n : Int) (l : List Int) : F_s_DecomposeBy [.agg [.int .i64 n, .list 1 (ints l)]] = some (.tup [.own 1 (ints (R0DecomposeBy n l)), .bool (R1DecomposeBy n l)]) := by simp [F_s_DecomposeBy, R0DecomposeBy, R1DecomposeBy]
theorem resIDecomposeBy (n : Int) (l : List Int) : F_s_DecomposeBy [.agg [.int .i64 n, .list 1 (ints l)]] = some (.tup [.own 1 (ints (R0DecomposeBy n l)), .bool (R1DecomposeBy n l)]) := resSDecomposeBy n l
def sc_l_FnExactDecomposeBy : SC := (.seq (.reg [⟨(some 1), none, (.box (.t 0))⟩, ⟨(some 2), none, (.mov (.c (.bool false)))⟩]) (.seq (.reg [⟨(some 3), none, (.mov (.c (.int .i64 1048576)))⟩]) (.seq (.reg [⟨(some 14), none, (.ld (some 2) .undef (.t 1))⟩, ⟨(some 15), none, (.mov (.t 3))⟩, ⟨(some 16), none, (.call 8 [(.t 14), (.t 15)])⟩, ⟨(some 3), none, (.mov (.t 16))⟩]) (.seq (.seq (.reg [⟨(some 17), none, (.mov (.t 3))⟩, ⟨(some 18), none, (.bin false .lss (.t 17) (.c (.int .i64 0)))⟩]) (.cond (.t 18) (.seq (.reg [⟨(some 2), none, (.mov (.c (.bool true)))⟩]) .ret) .skip)) (.seq (.reg [⟨(some 20), none, (.ld (some 2) .undef (.t 1))⟩, ⟨(some 21), none, (.call 10 [(.t 20)])⟩, ⟨(some 22), none, (.call 19 [(.t 21)])⟩, ⟨(some 19), none, (.mov (.t 22))⟩, ⟨(some 23), none, (.ext 0 (.t 19))⟩, ⟨(some 24), none, (.ext 1 (.t 19))⟩, ⟨(some 4), none, (.mov (.t 23))⟩, ⟨(some 5), none, (.mov (.t 24))⟩]) (.seq (.reg [⟨(some 25), none, (.ld (some 2) .undef (.t 1))⟩, ⟨(some 26), none, (.call 10 [(.t 25)])⟩, ⟨(some 6), none, (.new [(.int .i64 0), .nil])⟩, ⟨none, none, (.st 2 (.t 6) (.t 26))⟩]) (.seq (.reg [⟨(some 28), none, (.ld (some 2) .undef (.t 6))⟩, ⟨(some 29), none, (.call 20 [(.t 28)])⟩, ⟨(some 27), none, (.mov (.t 29))⟩, ⟨(some 30), none, (.ext 0 (.t 27))⟩, ⟨(some 31), none, (.ext 1 (.t 27))⟩, ⟨(some 7), none, (.mov (.t 30))⟩, ⟨(some 8), none, (.mov (.t 31))⟩]) (.seq (.seq (.reg [⟨(some 32), none, (.mov (.t 7))⟩, ⟨(some 33), none, (.mov (.t 4))⟩, ⟨(some 34), none, (.call 12 [(.t 32), (.t 33)])⟩, ⟨(some 35), none, (.un .not (.t 34))⟩, ⟨(some 36), none, (.mov (.t 35))⟩, ⟨(some 37), (some (36, false)), (.mov (.t 8))⟩, ⟨(some 38), (some (36, false)), (.mov (.t 5))⟩, ⟨(some 39), (some (36, false)), (.bin true .neq (.t 37) (.t 38))⟩, ⟨(some 40), none, (.pick (.t 36) (.c (.bool true)) (.t 39))⟩]) (.cond (.t 40) (.seq (.reg [⟨(some 2), none, (.mov (.c (.bool false)))⟩]) .ret) .skip)) (.seq (.seq (.dreg [⟨⟨(some 41), none, (.ld (some 2) .undef (.t 6))⟩, false, false⟩, ⟨⟨(some 42), none, (.ld (some 2) .undef (.t 1))⟩, false, false⟩, ⟨⟨(some 43), none, (.call 10 [(.t 42)])⟩, false, false⟩, ⟨⟨(some 44), none, (.call 13 [(.t 41), (.t 43)])⟩, false, false⟩, ⟨⟨(some 45), none, (.un .not (.t 44))⟩, false, false⟩]) (.cond (.t 45) (.seq (.reg [⟨(some 2), none, (.mov (.c (.bool false)))⟩]) .ret) .skip)) (.seq (.reg [⟨(some 9), none, (.mov (.c (.int .i64 1)))⟩]) (.seq (.reg [⟨(some 46), none, (.ld (some 2) .undef (.t 6))⟩, ⟨(some 47), none, (.mov (.t 9))⟩, ⟨(some 48), none, (.call 14 [(.t 46), (.t 47)])⟩, ⟨(some 9), none, (.mov (.t 48))⟩]) (.seq (.seq (.reg [⟨(some 49), none, (.mov (.t 9))⟩, ⟨(some 50), none, (.bin false .lss (.t 49) (.c (.int .i64 0)))⟩, ⟨(some 51), none, (.mov (.t 50))⟩, ⟨(some 52), (some (51, false)), (.mov (.t 7))⟩, ⟨(some 53), (some (51, false)), (.mov (.t 4))⟩, ⟨(some 54), (some (51, false)), (.call 12 [(.t 52), (.t 53)])⟩, ⟨(some 55), (some (51, false)), (.un .not (.t 54))⟩, ⟨(some 56), none, (.pick (.t 51) (.c (.bool true)) (.t 55))⟩, ⟨(some 57), none, (.mov (.t 56))⟩, ⟨(some 58), (some (57, false)), (.mov (.t 8))⟩, ⟨(some 59), (some (57, false)), (.mov (.t 5))⟩, ⟨(some 60), (some (57, false)), (.bin true .neq (.t 58) (.t 59))⟩, ⟨(some 61), none, (.pick (.t 57) (.c (.bool true)) (.t 60))⟩]) (.cond (.t 61) (.seq (.reg [⟨(some 2), none, (.mov (.c (.bool false)))⟩]) .ret) .skip)) (.seq (.reg [⟨(some 10), none, (.mov (.c (.int .i64 1)))⟩]) (.seq (.reg [⟨(some 62), none, (.mov (.t 7))⟩, ⟨(some 63), none, (.mov (.t 10))⟩, ⟨(some 64), none, (.call 15 [(.t 62), (.t 63)])⟩, ⟨(some 10), none, (.mov (.t 64))⟩]) (.seq (.reg [⟨(some 11), none, (.mov (.c (.int .i64 1)))⟩]) (.seq (.reg [⟨(some 65), none, (.mov (.t 7))⟩, ⟨(some 66), none, (.mov (.t 11))⟩, ⟨(some 67), none, (.call 16 [(.t 65), (.t 66)])⟩, ⟨(some 11), none, (.mov (.t 67))⟩]) (.seq (.seq (.reg [⟨(some 68), none, (.mov (.t 11))⟩, ⟨(some 69), none, (.bin false .lss (.t 68) (.c (.int .i64 0)))⟩]) (.cond (.t 69) (.seq (.reg [⟨(some 2), none, (.mov (.c (.bool false)))⟩]) .ret) .skip)) (.seq (.seq (.reg [⟨(some 70), none, (.mov (.t 11))⟩, ⟨(some 71), none, (.mov (.t 10))⟩, ⟨(some 72), none, (.bin false .neq (.t 70) (.t 71))⟩]) (.cond (.t 72) (.seq (.reg [⟨(some 2), none, (.mov (.c (.bool false)))⟩]) .ret) .skip)) (.seq (.reg [⟨(some 74), none, (.ld (some 2) .undef (.t 1))⟩, ⟨(some 75), none, (.call 10 [(.t 74)])⟩, ⟨(some 76), none, (.call 20 [(.t 75)])⟩, ⟨(some 73), none, (.mov (.t 76))⟩, ⟨(some 77), none, (.ext 0 (.t 73))⟩, ⟨(some 78), none, (.ext 1 (.t 73))⟩, ⟨(some 12), none, (.mov (.t 77))⟩, ⟨(some 13), none, (.mov (.t 78))⟩]) (.seq (.seq (.reg [⟨(some 79), none, (.mov (.t 12))⟩, ⟨(some 80), none, (.mov (.t 4))⟩, ⟨(some 81), none, (.call 12 [(.t 79), (.t 80)])⟩, ⟨(some 82), none, (.un .not (.t 81))⟩, ⟨(some 83), none, (.mov (.t 82))⟩, ⟨(some 84), (some (83, false)), (.mov (.t 13))⟩, ⟨(some 85), (some (83, false)), (.mov (.t 5))⟩, ⟨(some 86), (some (83, false)), (.bin true .neq (.t 84) (.t 85))⟩, ⟨(some 87), none, (.pick (.t 83) (.c (.bool true)) (.t 86))⟩]) (.cond (.t 87) (.seq (.reg [⟨(some 2), none, (.mov (.c (.bool false)))⟩]) .ret) .skip)) (.seq (.reg [⟨(some 11), none, (.mov (.c (.int .i64 1)))⟩]) (.seq (.reg [⟨(some 88), none, (.mov (.t 7))⟩, ⟨(some 89), none, (.mov (.t 11))⟩, ⟨(some 90), none, (.call 16 [(.t 88), (.t 89)])⟩, ⟨(some 11), none, (.mov (.t 90))⟩]) (.seq (.seq (.reg [⟨(some 91), none, (.mov (.t 11))⟩, ⟨(some 92), none, (.bin false .lss (.t 91) (.c (.int .i64 0)))⟩]) (.cond (.t 92) (.seq (.reg [⟨(some 2), none, (.mov (.c (.bool false)))⟩]) .ret) .skip)) (.seq (.seq (.reg [⟨(some 93), none, (.mov (.t 11))⟩, ⟨(some 94), none, (.mov (.t 10))⟩, ⟨(some 95), none, (.bin false .neq (.t 93) (.t 94))⟩]) (.cond (.t 95) (.seq (.reg [⟨(some 2), none, (.mov (.c (.bool false)))⟩]) .ret) .skip)) (.seq (.reg [⟨(some 2), none, (.mov (.c (.bool true)))⟩]) .ret)))))))))))))))))))))))))
theorem code_l_FnExactDecomposeBy : fnCode Try.prog [] 5 = some (96, sc_l_FnExactDecomposeBy, [(2, none)]) := by kernel_rfl
open Classical in
noncomputable def F_l_FnExactDecomposeBy : List V → Option V := F1 dC fun c0 => if allR c0.2 then some (.bool true) else none
theorem fn_l_FnExactDecomposeBy : FnOk Try.prog 5 F_l_FnExactDecomposeBy := by
  have env := (((((((((envNil_ok (P := Try.prog)).add fn_s_DecomposeBy).add fn_i_DecomposeBy).add fn_l_eqComplex).add fn_l_szComplex).add fn_l_toComplex).add fn_l_eqIntS).add fn_l_heldIntS).addl ln_l_markComplex).addl ln_l_markIntS
  refine fn_ok code_l_FnExactDecomposeBy mixed env ?_
  intro args r h hb
  obtain ⟨_, ⟨n, l⟩, rfl, h1, h9⟩ := F1_inv h
  cases dC_inv h1
  simp only [Option.ite_none_right_eq_some, Option.some.injEq] at h9
  obtain ⟨hc0, rfl⟩ := h9
  refine ⟨by simp, fun w0 U0 L0 N0 => ?_⟩
  clear h hb
  have hFS := resSDecomposeBy n l
  have hFI := resIDecomposeBy n l
  have hb0 := bnd0DecomposeBy n l
  generalize R0DecomposeBy n l = R0 at *
  generalize R1DecomposeBy n l = R1 at *
  by_cases hl2 : 1048576 < l.length
  · have e : leftOf l.length 1048576 = -1 := by simp only [leftOf]; split <;> omega
    simp -implicitDefEqProofs [sc_l_FnExactDecomposeBy, F_l_szComplex, e]
    try omega
  have e : leftOf l.length 1048576 = 1048576 - l.length := by simp only [leftOf]; split <;> omega
  have hl3 : l.length ≤ 1048576 := by omega
  have hl7 : (l.length : Int) ≤ 1048576 := by omega
  have hl8 : ¬ ((1048576 : Int) - l.length < 0) := by omega
  have hm0 := markG_of (l := l) (len := l.length) (k := 1) rfl (by omega) (by omega)
  have hk0 : ¬ ((1 + l.length) < (0 : Int)) := by omega
  have hr0 := markG_of (l := R0) (len := R0.length) (k := 1) rfl (by omega) (by omega)
  have hh0 := heldG_of (k := 1) (n := R0.length) (by omega) (by omega)
  have hn0 : ¬ ((1 + R0.length) < (0 : Int)) := by omega
  simp -implicitDefEqProofs [sc_l_FnExactDecomposeBy, F_l_eqComplex, F_l_szComplex, F_l_toComplex, F_l_eqIntS, F_l_heldIntS, G_l_markComplex, G_l_markIntS, ren0, hFS, hFI, e, hl3, hl7, hl8, hm0, hk0, hr0, hh0, hn0]
  try omega
end Go.Proofs.Ytkbgmkkboiihnaa
