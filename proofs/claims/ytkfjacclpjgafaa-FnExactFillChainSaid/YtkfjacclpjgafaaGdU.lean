import Derived.Test.YtkfjacclpjgafaaGdT
import Derived.Test.YtkfjacclpjgafaaKF
namespace Go.Proofs.Ytkfjacclpjgafaa
open Go Go.RowKit
set_option maxRecDepth 1000000
set_option linter.unusedSimpArgs false
set_option linter.unusedVariables false
set_option maxHeartbeats 1000000
noncomputable def R0FillChain (n : Int) (l : List Int) (k p : Int) (x : List Int) : List Int := fchL n l k p x
noncomputable def R1FillChain (n : Int) (l : List Int) (k p : Int) (x : List Int) : Bool := dec (fchP n l k p x)
theorem bnd0FillChain (n : Int) (l : List Int) (k p : Int) (x : List Int) : (R0FillChain n l k p x).length ≤ 64 := by
  have h1 : fcW n l k ≤ 64 := setsOf_len _
  unfold R0FillChain fchL
  split
  · unfold filL
    split
    · rw [filK_len]; exact h1
    · simp
  · simp
theorem resSFillChain (n : Int) (l : List Int) (k p : Int) (x : List Int) : F_s_FillChain [.agg [.int .i64 n, .list 1 (ints l)], .int .i64 k, .int .i64 p, .list 1 (ints x)] = some (.tup [.own 1 (ints (R0FillChain n l k p x)), .bool (R1FillChain n l k p x)]) := by simp [F_s_FillChain, R0FillChain, R1FillChain]
theorem resIFillChain (n : Int) (l : List Int) (k p : Int) (x : List Int) : F_s_FillChain [.agg [.int .i64 n, .list 1 (ints l)], .int .i64 k, .int .i64 p, .list 1 (ints x)] = some (.tup [.own 1 (ints (R0FillChain n l k p x)), .bool (R1FillChain n l k p x)]) := resSFillChain n l k p x
def sc_l_FnExactFillChain : SC := (.seq (.reg [⟨(some 4), none, (.box (.t 0))⟩, ⟨(some 8), none, (.mov (.c (.bool false)))⟩]) (.seq (.seq (.reg [⟨(some 21), none, (.mov (.t 3))⟩, ⟨(some 22), none, (.len (.t 21))⟩, ⟨(some 23), none, (.bin false .gtr (.t 22) (.c (.int .i64 1048576)))⟩]) (.cond (.t 23) (.seq (.reg [⟨(some 8), none, (.mov (.c (.bool true)))⟩]) .ret) .skip)) (.seq (.reg [⟨(some 9), none, (.mov (.c (.int .i64 1048576)))⟩]) (.seq (.reg [⟨(some 24), none, (.ld (some 2) .undef (.t 4))⟩, ⟨(some 25), none, (.mov (.t 9))⟩, ⟨(some 26), none, (.call 17 [(.t 24), (.t 25)])⟩, ⟨(some 9), none, (.mov (.t 26))⟩]) (.seq (.seq (.reg [⟨(some 27), none, (.mov (.t 9))⟩, ⟨(some 28), none, (.bin false .lss (.t 27) (.c (.int .i64 0)))⟩]) (.cond (.t 28) (.seq (.reg [⟨(some 8), none, (.mov (.c (.bool true)))⟩]) .ret) .skip)) (.seq (.reg [⟨(some 30), none, (.ld (some 2) .undef (.t 4))⟩, ⟨(some 31), none, (.call 19 [(.t 30)])⟩, ⟨(some 32), none, (.mov (.t 1))⟩, ⟨(some 33), none, (.mov (.t 2))⟩, ⟨(some 34), none, (.mov (.t 3))⟩, ⟨(some 35), none, (.call 20 [(.t 34)])⟩, ⟨(some 36), none, (.call 54 [(.t 31), (.t 32), (.t 33), (.t 35)])⟩, ⟨(some 29), none, (.mov (.t 36))⟩, ⟨(some 37), none, (.ext 0 (.t 29))⟩, ⟨(some 38), none, (.ext 1 (.t 29))⟩, ⟨(some 10), none, (.mov (.t 37))⟩, ⟨(some 11), none, (.mov (.t 38))⟩]) (.seq (.reg [⟨(some 39), none, (.ld (some 2) .undef (.t 4))⟩, ⟨(some 40), none, (.call 19 [(.t 39)])⟩, ⟨(some 12), none, (.new [(.int .i64 0), .nil])⟩, ⟨none, none, (.st 2 (.t 12) (.t 40))⟩]) (.seq (.reg [⟨(some 41), none, (.mov (.t 3))⟩, ⟨(some 42), none, (.call 20 [(.t 41)])⟩, ⟨(some 13), none, (.mov (.t 42))⟩]) (.seq (.reg [⟨(some 44), none, (.ld (some 2) .undef (.t 12))⟩, ⟨(some 45), none, (.mov (.t 1))⟩, ⟨(some 46), none, (.mov (.t 2))⟩, ⟨(some 47), none, (.mov (.t 13))⟩, ⟨(some 48), none, (.call 55 [(.t 44), (.t 45), (.t 46), (.t 47)])⟩, ⟨(some 43), none, (.mov (.t 48))⟩, ⟨(some 49), none, (.ext 0 (.t 43))⟩, ⟨(some 50), none, (.ext 1 (.t 43))⟩, ⟨(some 14), none, (.mov (.t 49))⟩, ⟨(some 15), none, (.mov (.t 50))⟩]) (.seq (.seq (.reg [⟨(some 51), none, (.mov (.t 14))⟩, ⟨(some 52), none, (.mov (.t 10))⟩, ⟨(some 53), none, (.call 23 [(.t 51), (.t 52)])⟩, ⟨(some 54), none, (.un .not (.t 53))⟩, ⟨(some 55), none, (.mov (.t 54))⟩, ⟨(some 56), (some (55, false)), (.mov (.t 15))⟩, ⟨(some 57), (some (55, false)), (.mov (.t 11))⟩, ⟨(some 58), (some (55, false)), (.bin true .neq (.t 56) (.t 57))⟩, ⟨(some 59), none, (.pick (.t 55) (.c (.bool true)) (.t 58))⟩]) (.cond (.t 59) (.seq (.reg [⟨(some 8), none, (.mov (.c (.bool false)))⟩]) .ret) .skip)) (.seq (.seq (.dreg [⟨⟨(some 60), none, (.ld (some 2) .undef (.t 12))⟩, false, false⟩, ⟨⟨(some 61), none, (.ld (some 2) .undef (.t 4))⟩, false, false⟩, ⟨⟨(some 62), none, (.call 19 [(.t 61)])⟩, false, false⟩, ⟨⟨(some 63), none, (.call 22 [(.t 60), (.t 62)])⟩, false, false⟩, ⟨⟨(some 64), none, (.un .not (.t 63))⟩, false, false⟩]) (.cond (.t 64) (.seq (.reg [⟨(some 8), none, (.mov (.c (.bool false)))⟩]) .ret) .skip)) (.seq (.seq (.reg [⟨(some 65), none, (.mov (.t 13))⟩, ⟨(some 66), none, (.mov (.t 3))⟩, ⟨(some 67), none, (.call 20 [(.t 66)])⟩, ⟨(some 68), none, (.call 23 [(.t 65), (.t 67)])⟩, ⟨(some 69), none, (.un .not (.t 68))⟩]) (.cond (.t 69) (.seq (.reg [⟨(some 8), none, (.mov (.c (.bool false)))⟩]) .ret) .skip)) (.seq (.reg [⟨(some 16), none, (.mov (.c (.int .i64 1)))⟩]) (.seq (.reg [⟨(some 70), none, (.ld (some 2) .undef (.t 12))⟩, ⟨(some 71), none, (.mov (.t 16))⟩, ⟨(some 72), none, (.call 26 [(.t 70), (.t 71)])⟩, ⟨(some 16), none, (.mov (.t 72))⟩]) (.seq (.reg [⟨(some 73), none, (.mov (.t 13))⟩, ⟨(some 74), none, (.mov (.t 16))⟩, ⟨(some 75), none, (.call 27 [(.t 73), (.t 74)])⟩, ⟨(some 16), none, (.mov (.t 75))⟩]) (.seq (.seq (.reg [⟨(some 76), none, (.mov (.t 16))⟩, ⟨(some 77), none, (.bin false .lss (.t 76) (.c (.int .i64 0)))⟩, ⟨(some 78), none, (.mov (.t 77))⟩, ⟨(some 79), (some (78, false)), (.mov (.t 14))⟩, ⟨(some 80), (some (78, false)), (.mov (.t 10))⟩, ⟨(some 81), (some (78, false)), (.call 23 [(.t 79), (.t 80)])⟩, ⟨(some 82), (some (78, false)), (.un .not (.t 81))⟩, ⟨(some 83), none, (.pick (.t 78) (.c (.bool true)) (.t 82))⟩, ⟨(some 84), none, (.mov (.t 83))⟩, ⟨(some 85), (some (84, false)), (.mov (.t 15))⟩, ⟨(some 86), (some (84, false)), (.mov (.t 11))⟩, ⟨(some 87), (some (84, false)), (.bin true .neq (.t 85) (.t 86))⟩, ⟨(some 88), none, (.pick (.t 84) (.c (.bool true)) (.t 87))⟩]) (.cond (.t 88) (.seq (.reg [⟨(some 8), none, (.mov (.c (.bool false)))⟩]) .ret) .skip)) (.seq (.reg [⟨(some 17), none, (.mov (.c (.int .i64 1)))⟩]) (.seq (.reg [⟨(some 89), none, (.mov (.t 14))⟩, ⟨(some 90), none, (.mov (.t 17))⟩, ⟨(some 91), none, (.call 27 [(.t 89), (.t 90)])⟩, ⟨(some 17), none, (.mov (.t 91))⟩]) (.seq (.reg [⟨(some 18), none, (.mov (.c (.int .i64 1)))⟩]) (.seq (.reg [⟨(some 92), none, (.mov (.t 14))⟩, ⟨(some 93), none, (.mov (.t 18))⟩, ⟨(some 94), none, (.call 28 [(.t 92), (.t 93)])⟩, ⟨(some 18), none, (.mov (.t 94))⟩]) (.seq (.seq (.reg [⟨(some 95), none, (.mov (.t 18))⟩, ⟨(some 96), none, (.bin false .lss (.t 95) (.c (.int .i64 0)))⟩]) (.cond (.t 96) (.seq (.reg [⟨(some 8), none, (.mov (.c (.bool false)))⟩]) .ret) .skip)) (.seq (.seq (.reg [⟨(some 97), none, (.mov (.t 18))⟩, ⟨(some 98), none, (.mov (.t 17))⟩, ⟨(some 99), none, (.bin false .neq (.t 97) (.t 98))⟩]) (.cond (.t 99) (.seq (.reg [⟨(some 8), none, (.mov (.c (.bool false)))⟩]) .ret) .skip)) (.seq (.reg [⟨(some 101), none, (.ld (some 2) .undef (.t 4))⟩, ⟨(some 102), none, (.call 19 [(.t 101)])⟩, ⟨(some 103), none, (.mov (.t 1))⟩, ⟨(some 104), none, (.mov (.t 2))⟩, ⟨(some 105), none, (.mov (.t 3))⟩, ⟨(some 106), none, (.call 20 [(.t 105)])⟩, ⟨(some 107), none, (.call 55 [(.t 102), (.t 103), (.t 104), (.t 106)])⟩, ⟨(some 100), none, (.mov (.t 107))⟩, ⟨(some 108), none, (.ext 0 (.t 100))⟩, ⟨(some 109), none, (.ext 1 (.t 100))⟩, ⟨(some 19), none, (.mov (.t 108))⟩, ⟨(some 20), none, (.mov (.t 109))⟩]) (.seq (.seq (.reg [⟨(some 110), none, (.mov (.t 19))⟩, ⟨(some 111), none, (.mov (.t 10))⟩, ⟨(some 112), none, (.call 23 [(.t 110), (.t 111)])⟩, ⟨(some 113), none, (.un .not (.t 112))⟩, ⟨(some 114), none, (.mov (.t 113))⟩, ⟨(some 115), (some (114, false)), (.mov (.t 20))⟩, ⟨(some 116), (some (114, false)), (.mov (.t 11))⟩, ⟨(some 117), (some (114, false)), (.bin true .neq (.t 115) (.t 116))⟩, ⟨(some 118), none, (.pick (.t 114) (.c (.bool true)) (.t 117))⟩]) (.cond (.t 118) (.seq (.reg [⟨(some 8), none, (.mov (.c (.bool false)))⟩]) .ret) .skip)) (.seq (.reg [⟨(some 18), none, (.mov (.c (.int .i64 1)))⟩]) (.seq (.reg [⟨(some 119), none, (.mov (.t 14))⟩, ⟨(some 120), none, (.mov (.t 18))⟩, ⟨(some 121), none, (.call 28 [(.t 119), (.t 120)])⟩, ⟨(some 18), none, (.mov (.t 121))⟩]) (.seq (.seq (.reg [⟨(some 122), none, (.mov (.t 18))⟩, ⟨(some 123), none, (.bin false .lss (.t 122) (.c (.int .i64 0)))⟩]) (.cond (.t 123) (.seq (.reg [⟨(some 8), none, (.mov (.c (.bool false)))⟩]) .ret) .skip)) (.seq (.seq (.reg [⟨(some 124), none, (.mov (.t 18))⟩, ⟨(some 125), none, (.mov (.t 17))⟩, ⟨(some 126), none, (.bin false .neq (.t 124) (.t 125))⟩]) (.cond (.t 126) (.seq (.reg [⟨(some 8), none, (.mov (.c (.bool false)))⟩]) .ret) .skip)) (.seq (.reg [⟨(some 8), none, (.mov (.c (.bool true)))⟩]) .ret)))))))))))))))))))))))))))))
theorem code_l_FnExactFillChain : fnCode Try.prog [] 15 = some (127, sc_l_FnExactFillChain, [(8, none)]) := by kernel_rfl
open Classical in
noncomputable def F_l_FnExactFillChain : List V → Option V := F4 dC dI dI dL fun c0 c1 c2 c3 => if allR c0.2 ∧ inR c1 ∧ inR c2 ∧ allR c3 then some (.bool true) else none
theorem fn_l_FnExactFillChain : FnOk Try.prog 15 F_l_FnExactFillChain := by
  have env := ((((((((((envNil_ok (P := Try.prog)).add fn_s_FillChain).add fn_i_FillChain).add fn_l_eqComplex).add fn_l_szComplex).add fn_l_toComplex).add fn_l_toIntS).add fn_l_eqIntS).add fn_l_heldIntS).addl ln_l_markComplex).addl ln_l_markIntS
  refine fn_ok code_l_FnExactFillChain mixed env ?_
  intro args r h hb
  obtain ⟨_, _, _, _, ⟨n, l⟩, x1, x2, list, rfl, h1, h2, h3, h4, h9⟩ := F4_inv h
  cases dC_inv h1
  cases dI_inv h2
  cases dI_inv h3
  cases dL_inv h4
  simp only [Option.ite_none_right_eq_some, Option.some.injEq] at h9
  obtain ⟨⟨hc0, hc1, hc2, hc3⟩, rfl⟩ := h9
  refine ⟨by simp, fun w0 U0 L0 N0 => ?_⟩
  clear h hb
  have hFS := resSFillChain n l x1 x2 list
  have hFI := resIFillChain n l x1 x2 list
  have hb0 := bnd0FillChain n l x1 x2 list
  generalize R0FillChain n l x1 x2 list = R0 at *
  generalize R1FillChain n l x1 x2 list = R1 at *
  by_cases hl1 : 1048576 < list.length
  · have hx : (1048576 : Int) < list.length := by omega
    simp -implicitDefEqProofs [sc_l_FnExactFillChain, hx]
    try omega
  have hl4 : list.length ≤ 1048576 := by omega
  have hl4' : ¬ ((1048576 : Int) < list.length) := by omega
  by_cases hl2 : 1048576 < l.length
  · have e : leftOf l.length 1048576 = -1 := by simp only [leftOf]; split <;> omega
    simp -implicitDefEqProofs [sc_l_FnExactFillChain, F_l_szComplex, hl1, hl4, hl4', e]
    try omega
  have e : leftOf l.length 1048576 = 1048576 - l.length := by simp only [leftOf]; split <;> omega
  have hl3 : l.length ≤ 1048576 := by omega
  have hl7 : (l.length : Int) ≤ 1048576 := by omega
  have hl8 : ¬ ((1048576 : Int) - l.length < 0) := by omega
  have hm0 := markG_of (l := l) (len := l.length) (k := 1) rfl (by omega) (by omega)
  have hm1 := markG_of (l := list) (len := list.length) (k := (1 + l.length)) rfl (by omega) (by omega)
  have hk0 : ¬ (((1 + l.length) + list.length) < (0 : Int)) := by omega
  have hr0 := markG_of (l := R0) (len := R0.length) (k := 1) rfl (by omega) (by omega)
  have hh0 := heldG_of (k := 1) (n := R0.length) (by omega) (by omega)
  have hn0 : ¬ ((1 + R0.length) < (0 : Int)) := by omega
  simp -implicitDefEqProofs [sc_l_FnExactFillChain, F_l_eqComplex, F_l_szComplex, F_l_toComplex, F_l_toIntS, F_l_eqIntS, F_l_heldIntS, G_l_markComplex, G_l_markIntS, ren0, hFS, hFI, hl1, hl4, hl4', e, hl3, hl7, hl8, hm0, hm1, hk0, hr0, hh0, hn0]
  try omega
end Go.Proofs.Ytkfjacclpjgafaa
