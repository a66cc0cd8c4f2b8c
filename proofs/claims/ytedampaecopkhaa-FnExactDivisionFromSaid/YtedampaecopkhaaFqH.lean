import Derived.Test.YtedampaecopkhaaFqF
import Derived.Test.YtedampaecopkhaaFoC
namespace Go.Proofs.Ytedampaecopkhaa
open Go Go.RowKit
set_option maxRecDepth 1000000
set_option linter.unusedSimpArgs false
set_option linter.unusedVariables false
set_option maxHeartbeats 1000000
noncomputable def R0DivisionFrom (n : Int) (l list : List Int) : List Int := divfL n l list
noncomputable def R1DivisionFrom (n : Int) (l list : List Int) : Bool := shellB n l list
theorem bnd0DivisionFrom (n : Int) (l list : List Int) : (R0DivisionFrom n l list).length ≤ 64 := by
  unfold R0DivisionFrom divfL
  split
  · rename_i h
    have ho := shell_order h
    have h1 := order_len ho
    obtain ⟨h2, _⟩ := order_all ho
    rw [divfP_len]; omega
  · simp
theorem resSDivisionFrom (n : Int) (l list : List Int) : F_s_DivisionFrom [.agg [.int .i64 n, .list 1 (ints l)], .list 1 (ints list)] = some (.tup [.own 1 (ints (R0DivisionFrom n l list)), .bool (R1DivisionFrom n l list)]) := by simp [F_s_DivisionFrom, R0DivisionFrom, R1DivisionFrom]
theorem resIDivisionFrom (n : Int) (l list : List Int) : F_s_DivisionFrom [.agg [.int .i64 n, .list 1 (ints l)], .list 1 (ints list)] = some (.tup [.own 1 (ints (R0DivisionFrom n l list)), .bool (R1DivisionFrom n l list)]) := resSDivisionFrom n l list
def sc_l_FnExactDivisionFrom : SC := (.seq (.reg [⟨(some 2), none, (.box (.t 0))⟩, ⟨(some 4), none, (.mov (.c (.bool false)))⟩]) (.seq (.seq (.reg [⟨(some 17), none, (.mov (.t 1))⟩, ⟨(some 18), none, (.len (.t 17))⟩, ⟨(some 19), none, (.bin false .gtr (.t 18) (.c (.int .i64 1048576)))⟩]) (.cond (.t 19) (.seq (.reg [⟨(some 4), none, (.mov (.c (.bool true)))⟩]) .ret) .skip)) (.seq (.reg [⟨(some 5), none, (.mov (.c (.int .i64 1048576)))⟩]) (.seq (.reg [⟨(some 20), none, (.ld (some 2) .undef (.t 2))⟩, ⟨(some 21), none, (.mov (.t 5))⟩, ⟨(some 22), none, (.call 16 [(.t 20), (.t 21)])⟩, ⟨(some 5), none, (.mov (.t 22))⟩]) (.seq (.seq (.reg [⟨(some 23), none, (.mov (.t 5))⟩, ⟨(some 24), none, (.bin false .lss (.t 23) (.c (.int .i64 0)))⟩]) (.cond (.t 24) (.seq (.reg [⟨(some 4), none, (.mov (.c (.bool true)))⟩]) .ret) .skip)) (.seq (.reg [⟨(some 26), none, (.ld (some 2) .undef (.t 2))⟩, ⟨(some 27), none, (.call 18 [(.t 26)])⟩, ⟨(some 28), none, (.mov (.t 1))⟩, ⟨(some 29), none, (.call 22 [(.t 28)])⟩, ⟨(some 30), none, (.call 47 [(.t 27), (.t 29)])⟩, ⟨(some 25), none, (.mov (.t 30))⟩, ⟨(some 31), none, (.ext 0 (.t 25))⟩, ⟨(some 32), none, (.ext 1 (.t 25))⟩, ⟨(some 6), none, (.mov (.t 31))⟩, ⟨(some 7), none, (.mov (.t 32))⟩]) (.seq (.reg [⟨(some 33), none, (.ld (some 2) .undef (.t 2))⟩, ⟨(some 34), none, (.call 18 [(.t 33)])⟩, ⟨(some 8), none, (.new [(.int .i64 0), .nil])⟩, ⟨none, none, (.st 2 (.t 8) (.t 34))⟩]) (.seq (.reg [⟨(some 35), none, (.mov (.t 1))⟩, ⟨(some 36), none, (.call 22 [(.t 35)])⟩, ⟨(some 9), none, (.mov (.t 36))⟩]) (.seq (.reg [⟨(some 38), none, (.ld (some 2) .undef (.t 8))⟩, ⟨(some 39), none, (.mov (.t 9))⟩, ⟨(some 40), none, (.call 48 [(.t 38), (.t 39)])⟩, ⟨(some 37), none, (.mov (.t 40))⟩, ⟨(some 41), none, (.ext 0 (.t 37))⟩, ⟨(some 42), none, (.ext 1 (.t 37))⟩, ⟨(some 10), none, (.mov (.t 41))⟩, ⟨(some 11), none, (.mov (.t 42))⟩]) (.seq (.seq (.reg [⟨(some 43), none, (.mov (.t 10))⟩, ⟨(some 44), none, (.mov (.t 6))⟩, ⟨(some 45), none, (.call 24 [(.t 43), (.t 44)])⟩, ⟨(some 46), none, (.un .not (.t 45))⟩, ⟨(some 47), none, (.mov (.t 46))⟩, ⟨(some 48), (some (47, false)), (.mov (.t 11))⟩, ⟨(some 49), (some (47, false)), (.mov (.t 7))⟩, ⟨(some 50), (some (47, false)), (.bin true .neq (.t 48) (.t 49))⟩, ⟨(some 51), none, (.pick (.t 47) (.c (.bool true)) (.t 50))⟩]) (.cond (.t 51) (.seq (.reg [⟨(some 4), none, (.mov (.c (.bool false)))⟩]) .ret) .skip)) (.seq (.seq (.dreg [⟨⟨(some 52), none, (.ld (some 2) .undef (.t 8))⟩, false, false⟩, ⟨⟨(some 53), none, (.ld (some 2) .undef (.t 2))⟩, false, false⟩, ⟨⟨(some 54), none, (.call 18 [(.t 53)])⟩, false, false⟩, ⟨⟨(some 55), none, (.call 20 [(.t 52), (.t 54)])⟩, false, false⟩, ⟨⟨(some 56), none, (.un .not (.t 55))⟩, false, false⟩]) (.cond (.t 56) (.seq (.reg [⟨(some 4), none, (.mov (.c (.bool false)))⟩]) .ret) .skip)) (.seq (.seq (.reg [⟨(some 57), none, (.mov (.t 9))⟩, ⟨(some 58), none, (.mov (.t 1))⟩, ⟨(some 59), none, (.call 22 [(.t 58)])⟩, ⟨(some 60), none, (.call 24 [(.t 57), (.t 59)])⟩, ⟨(some 61), none, (.un .not (.t 60))⟩]) (.cond (.t 61) (.seq (.reg [⟨(some 4), none, (.mov (.c (.bool false)))⟩]) .ret) .skip)) (.seq (.reg [⟨(some 12), none, (.mov (.c (.int .i64 1)))⟩]) (.seq (.reg [⟨(some 62), none, (.ld (some 2) .undef (.t 8))⟩, ⟨(some 63), none, (.mov (.t 12))⟩, ⟨(some 64), none, (.call 27 [(.t 62), (.t 63)])⟩, ⟨(some 12), none, (.mov (.t 64))⟩]) (.seq (.reg [⟨(some 65), none, (.mov (.t 9))⟩, ⟨(some 66), none, (.mov (.t 12))⟩, ⟨(some 67), none, (.call 28 [(.t 65), (.t 66)])⟩, ⟨(some 12), none, (.mov (.t 67))⟩]) (.seq (.seq (.reg [⟨(some 68), none, (.mov (.t 12))⟩, ⟨(some 69), none, (.bin false .lss (.t 68) (.c (.int .i64 0)))⟩, ⟨(some 70), none, (.mov (.t 69))⟩, ⟨(some 71), (some (70, false)), (.mov (.t 10))⟩, ⟨(some 72), (some (70, false)), (.mov (.t 6))⟩, ⟨(some 73), (some (70, false)), (.call 24 [(.t 71), (.t 72)])⟩, ⟨(some 74), (some (70, false)), (.un .not (.t 73))⟩, ⟨(some 75), none, (.pick (.t 70) (.c (.bool true)) (.t 74))⟩, ⟨(some 76), none, (.mov (.t 75))⟩, ⟨(some 77), (some (76, false)), (.mov (.t 11))⟩, ⟨(some 78), (some (76, false)), (.mov (.t 7))⟩, ⟨(some 79), (some (76, false)), (.bin true .neq (.t 77) (.t 78))⟩, ⟨(some 80), none, (.pick (.t 76) (.c (.bool true)) (.t 79))⟩]) (.cond (.t 80) (.seq (.reg [⟨(some 4), none, (.mov (.c (.bool false)))⟩]) .ret) .skip)) (.seq (.reg [⟨(some 13), none, (.mov (.c (.int .i64 1)))⟩]) (.seq (.reg [⟨(some 81), none, (.mov (.t 10))⟩, ⟨(some 82), none, (.mov (.t 13))⟩, ⟨(some 83), none, (.call 28 [(.t 81), (.t 82)])⟩, ⟨(some 13), none, (.mov (.t 83))⟩]) (.seq (.reg [⟨(some 14), none, (.mov (.c (.int .i64 1)))⟩]) (.seq (.reg [⟨(some 84), none, (.mov (.t 10))⟩, ⟨(some 85), none, (.mov (.t 14))⟩, ⟨(some 86), none, (.call 29 [(.t 84), (.t 85)])⟩, ⟨(some 14), none, (.mov (.t 86))⟩]) (.seq (.seq (.reg [⟨(some 87), none, (.mov (.t 14))⟩, ⟨(some 88), none, (.bin false .lss (.t 87) (.c (.int .i64 0)))⟩]) (.cond (.t 88) (.seq (.reg [⟨(some 4), none, (.mov (.c (.bool false)))⟩]) .ret) .skip)) (.seq (.seq (.reg [⟨(some 89), none, (.mov (.t 14))⟩, ⟨(some 90), none, (.mov (.t 13))⟩, ⟨(some 91), none, (.bin false .neq (.t 89) (.t 90))⟩]) (.cond (.t 91) (.seq (.reg [⟨(some 4), none, (.mov (.c (.bool false)))⟩]) .ret) .skip)) (.seq (.reg [⟨(some 93), none, (.ld (some 2) .undef (.t 2))⟩, ⟨(some 94), none, (.call 18 [(.t 93)])⟩, ⟨(some 95), none, (.mov (.t 1))⟩, ⟨(some 96), none, (.call 22 [(.t 95)])⟩, ⟨(some 97), none, (.call 48 [(.t 94), (.t 96)])⟩, ⟨(some 92), none, (.mov (.t 97))⟩, ⟨(some 98), none, (.ext 0 (.t 92))⟩, ⟨(some 99), none, (.ext 1 (.t 92))⟩, ⟨(some 15), none, (.mov (.t 98))⟩, ⟨(some 16), none, (.mov (.t 99))⟩]) (.seq (.seq (.reg [⟨(some 100), none, (.mov (.t 15))⟩, ⟨(some 101), none, (.mov (.t 6))⟩, ⟨(some 102), none, (.call 24 [(.t 100), (.t 101)])⟩, ⟨(some 103), none, (.un .not (.t 102))⟩, ⟨(some 104), none, (.mov (.t 103))⟩, ⟨(some 105), (some (104, false)), (.mov (.t 16))⟩, ⟨(some 106), (some (104, false)), (.mov (.t 7))⟩, ⟨(some 107), (some (104, false)), (.bin true .neq (.t 105) (.t 106))⟩, ⟨(some 108), none, (.pick (.t 104) (.c (.bool true)) (.t 107))⟩]) (.cond (.t 108) (.seq (.reg [⟨(some 4), none, (.mov (.c (.bool false)))⟩]) .ret) .skip)) (.seq (.reg [⟨(some 14), none, (.mov (.c (.int .i64 1)))⟩]) (.seq (.reg [⟨(some 109), none, (.mov (.t 10))⟩, ⟨(some 110), none, (.mov (.t 14))⟩, ⟨(some 111), none, (.call 29 [(.t 109), (.t 110)])⟩, ⟨(some 14), none, (.mov (.t 111))⟩]) (.seq (.seq (.reg [⟨(some 112), none, (.mov (.t 14))⟩, ⟨(some 113), none, (.bin false .lss (.t 112) (.c (.int .i64 0)))⟩]) (.cond (.t 113) (.seq (.reg [⟨(some 4), none, (.mov (.c (.bool false)))⟩]) .ret) .skip)) (.seq (.seq (.reg [⟨(some 114), none, (.mov (.t 14))⟩, ⟨(some 115), none, (.mov (.t 13))⟩, ⟨(some 116), none, (.bin false .neq (.t 114) (.t 115))⟩]) (.cond (.t 116) (.seq (.reg [⟨(some 4), none, (.mov (.c (.bool false)))⟩]) .ret) .skip)) (.seq (.reg [⟨(some 4), none, (.mov (.c (.bool true)))⟩]) .ret)))))))))))))))))))))))))))))
theorem code_l_FnExactDivisionFrom : fnCode Try.prog [] 12 = some (117, sc_l_FnExactDivisionFrom, [(4, none)]) := by kernel_rfl
open Classical in
noncomputable def F_l_FnExactDivisionFrom : List V → Option V := F2 dC dL fun c0 c1 => if allR c0.2 ∧ allR c1 then some (.bool true) else none
theorem fn_l_FnExactDivisionFrom : FnOk Try.prog 12 F_l_FnExactDivisionFrom := by
  have env := ((((((((((envNil_ok (P := Try.prog)).add fn_s_DivisionFrom).add fn_i_DivisionFrom).add fn_l_eqComplex).add fn_l_szComplex).add fn_l_toComplex).add fn_l_toIntS).add fn_l_eqIntS).add fn_l_heldIntS).addl ln_l_markComplex).addl ln_l_markIntS
  refine fn_ok code_l_FnExactDivisionFrom mixed env ?_
  intro args r h hb
  obtain ⟨_, _, ⟨n, l⟩, list, rfl, h1, h2, h9⟩ := F2_inv h
  cases dC_inv h1
  cases dL_inv h2
  simp only [Option.ite_none_right_eq_some, Option.some.injEq] at h9
  obtain ⟨⟨hc0, hc1⟩, rfl⟩ := h9
  refine ⟨by simp, fun w0 U0 L0 N0 => ?_⟩
  clear h hb
  have hFS := resSDivisionFrom n l list
  have hFI := resIDivisionFrom n l list
  have hb0 := bnd0DivisionFrom n l list
  generalize R0DivisionFrom n l list = R0 at *
  generalize R1DivisionFrom n l list = R1 at *
  by_cases hl1 : 1048576 < list.length
  · have hx : (1048576 : Int) < list.length := by omega
    simp -implicitDefEqProofs [sc_l_FnExactDivisionFrom, hx]
    try omega
  have hl4 : list.length ≤ 1048576 := by omega
  have hl4' : ¬ ((1048576 : Int) < list.length) := by omega
  by_cases hl2 : 1048576 < l.length
  · have e : leftOf l.length 1048576 = -1 := by simp only [leftOf]; split <;> omega
    simp -implicitDefEqProofs [sc_l_FnExactDivisionFrom, F_l_szComplex, hl1, hl4, hl4', e]
    try omega
  have e : leftOf l.length 1048576 = 1048576 - l.length := by simp only [leftOf]; split <;> omega
  have hl3 : l.length ≤ 1048576 := by omega
  have hl7 : (l.length : Int) ≤ 1048576 := by omega
  have hl8 : ¬ ((1048576 : Int) - l.length < 0) := by omega
  have hm0 := markG_of (l := l) (len := l.length) (k := 1) rfl (by omega) (by omega)
  have hm1 := markG_of (l := list) (len := list.length) (k := (1 + l.length)) rfl (by omega) (by omega)
  have hk0 : ¬ (((1 + l.length) + list.length) < (0 : Int)) := by omega
  have hr0 := markG_of (l := R0) (len := R0.length) (k := 1) rfl (by omega) (by omega)
  have hh0 := heldG_of (k := 1) (n := R0.length) (by omega) (by omega)
  have hn0 : ¬ ((1 + R0.length) < (0 : Int)) := by omega
  simp -implicitDefEqProofs [sc_l_FnExactDivisionFrom, F_l_eqComplex, F_l_szComplex, F_l_toComplex, F_l_toIntS, F_l_eqIntS, F_l_heldIntS, G_l_markComplex, G_l_markIntS, ren0, hFS, hFI, hl1, hl4, hl4', e, hl3, hl7, hl8, hm0, hm1, hk0, hr0, hh0, hn0]
  try omega
end Go.Proofs.Ytedampaecopkhaa
