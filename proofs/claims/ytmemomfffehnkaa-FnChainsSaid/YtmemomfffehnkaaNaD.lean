import Derived.Test.YtmemomfffehnkaaLmC
import Derived.Test.YtmemomfffehnkaaKG4
import Derived.Test.YtmemomfffehnkaaJbA
import Derived.Test.YtmemomfffehnkaaKG6
import Derived.Test.YtmemomfffehnkaaKG2
namespace Go.Proofs.Ytmemomfffehnkaa
open Go Go.RowKit
set_option maxRecDepth 1000000
set_option linter.unusedSimpArgs false
set_option linter.unusedVariables false
set_option maxHeartbeats 1000000
def sc_l_FnChains : SC := (.seq (.reg [⟨(some 2), none, (.mov (.c (.bool false)))⟩]) (.seq (.seq (.reg [⟨(some 26), none, (.mov (.t 0))⟩, ⟨(some 27), none, (.call 10 [(.t 26)])⟩]) (.cond (.t 27) (.seq (.reg [⟨(some 2), none, (.mov (.c (.bool true)))⟩]) .ret) .skip)) (.seq (.reg [⟨(some 29), none, (.mov (.t 0))⟩, ⟨(some 30), none, (.call 11 [(.t 29)])⟩, ⟨(some 28), none, (.mov (.t 30))⟩, ⟨(some 31), none, (.ext 0 (.t 28))⟩, ⟨(some 32), none, (.ext 1 (.t 28))⟩, ⟨(some 33), none, (.ext 2 (.t 28))⟩, ⟨(some 34), none, (.ext 3 (.t 28))⟩, ⟨(some 3), none, (.new [(.int .i64 0), .nil])⟩, ⟨none, none, (.st 2 (.t 3) (.t 31))⟩, ⟨(some 4), none, (.mov (.t 32))⟩, ⟨(some 5), none, (.mov (.t 33))⟩, ⟨(some 6), none, (.mov (.t 34))⟩]) (.seq (.reg [⟨(some 36), none, (.ld (some 2) .undef (.t 3))⟩, ⟨(some 37), none, (.mov (.t 4))⟩, ⟨(some 38), none, (.mov (.t 5))⟩, ⟨(some 39), none, (.mov (.t 6))⟩, ⟨(some 40), none, (.call 12 [(.t 36), (.t 37), (.t 38), (.t 39)])⟩, ⟨(some 35), none, (.mov (.t 40))⟩, ⟨(some 41), none, (.ext 0 (.t 35))⟩, ⟨(some 42), none, (.ext 1 (.t 35))⟩, ⟨(some 7), none, (.mov (.t 41))⟩, ⟨(some 8), none, (.mov (.t 42))⟩]) (.seq (.reg [⟨(some 44), none, (.ld (some 2) .undef (.t 3))⟩, ⟨(some 45), none, (.mov (.t 4))⟩, ⟨(some 46), none, (.mov (.t 5))⟩, ⟨(some 47), none, (.mov (.t 6))⟩, ⟨(some 48), none, (.call 13 [(.t 44), (.t 45), (.t 46), (.t 47)])⟩, ⟨(some 43), none, (.mov (.t 48))⟩, ⟨(some 49), none, (.ext 0 (.t 43))⟩, ⟨(some 50), none, (.ext 1 (.t 43))⟩, ⟨(some 9), none, (.mov (.t 49))⟩, ⟨(some 10), none, (.mov (.t 50))⟩]) (.seq (.reg [⟨(some 52), none, (.ld (some 2) .undef (.t 3))⟩, ⟨(some 53), none, (.mov (.t 4))⟩, ⟨(some 54), none, (.mov (.t 5))⟩, ⟨(some 55), none, (.mov (.t 6))⟩, ⟨(some 56), none, (.call 14 [(.t 52), (.t 53), (.t 54), (.t 55)])⟩, ⟨(some 51), none, (.mov (.t 56))⟩, ⟨(some 57), none, (.ext 0 (.t 51))⟩, ⟨(some 58), none, (.ext 1 (.t 51))⟩, ⟨(some 11), none, (.mov (.t 57))⟩, ⟨(some 12), none, (.mov (.t 58))⟩]) (.seq (.reg [⟨(some 60), none, (.ld (some 2) .undef (.t 3))⟩, ⟨(some 61), none, (.mov (.t 4))⟩, ⟨(some 62), none, (.mov (.t 5))⟩, ⟨(some 63), none, (.mov (.t 6))⟩, ⟨(some 64), none, (.call 15 [(.t 60), (.t 61), (.t 62), (.t 63)])⟩, ⟨(some 59), none, (.mov (.t 64))⟩, ⟨(some 65), none, (.ext 0 (.t 59))⟩, ⟨(some 66), none, (.ext 1 (.t 59))⟩, ⟨(some 13), none, (.mov (.t 65))⟩, ⟨(some 14), none, (.mov (.t 66))⟩]) (.seq (.reg [⟨(some 68), none, (.mov (.t 0))⟩, ⟨(some 69), none, (.call 16 [(.t 68)])⟩, ⟨(some 67), none, (.mov (.t 69))⟩, ⟨(some 70), none, (.ext 0 (.t 67))⟩, ⟨(some 71), none, (.ext 1 (.t 67))⟩, ⟨(some 72), none, (.ext 2 (.t 67))⟩, ⟨(some 15), none, (.new [(.int .i64 0), .nil])⟩, ⟨none, none, (.st 2 (.t 15) (.t 70))⟩, ⟨(some 16), none, (.mov (.t 71))⟩, ⟨(some 17), none, (.mov (.t 72))⟩]) (.seq (.reg [⟨(some 74), none, (.ld (some 2) .undef (.t 15))⟩, ⟨(some 75), none, (.mov (.t 16))⟩, ⟨(some 76), none, (.mov (.t 17))⟩, ⟨(some 77), none, (.call 17 [(.t 74), (.t 75), (.t 76)])⟩, ⟨(some 73), none, (.mov (.t 77))⟩, ⟨(some 78), none, (.ext 0 (.t 73))⟩, ⟨(some 79), none, (.ext 1 (.t 73))⟩, ⟨(some 18), none, (.mov (.t 78))⟩, ⟨(some 19), none, (.mov (.t 79))⟩]) (.cut (.reg [⟨(some 81), none, (.ld (some 2) .undef (.t 15))⟩, ⟨(some 82), none, (.mov (.t 16))⟩, ⟨(some 83), none, (.mov (.t 17))⟩, ⟨(some 84), none, (.call 18 [(.t 81), (.t 82), (.t 83)])⟩, ⟨(some 80), none, (.mov (.t 84))⟩, ⟨(some 85), none, (.ext 0 (.t 80))⟩, ⟨(some 86), none, (.ext 1 (.t 80))⟩, ⟨(some 20), none, (.mov (.t 85))⟩, ⟨(some 21), none, (.mov (.t 86))⟩]) (.cut (.seq (.dreg [⟨⟨(some 87), none, (.mov (.t 8))⟩, false, false⟩, ⟨⟨(some 88), none, (.mov (.t 10))⟩, false, false⟩, ⟨⟨(some 89), none, (.bin true .neq (.t 87) (.t 88))⟩, false, false⟩, ⟨⟨(some 90), none, (.mov (.t 89))⟩, false, false⟩, ⟨⟨(some 91), (some (90, false)), (.mov (.t 7))⟩, false, false⟩, ⟨⟨(some 92), (some (90, false)), (.mov (.t 9))⟩, false, false⟩, ⟨⟨(some 93), (some (90, false)), (.call 19 [(.t 91), (.t 92)])⟩, false, false⟩, ⟨⟨(some 94), (some (90, false)), (.un .not (.t 93))⟩, false, false⟩, ⟨⟨(some 95), none, (.pick (.t 90) (.c (.bool true)) (.t 94))⟩, false, false⟩, ⟨⟨(some 96), none, (.mov (.t 95))⟩, false, false⟩, ⟨⟨(some 97), (some (96, false)), (.mov (.t 12))⟩, false, false⟩, ⟨⟨(some 98), (some (96, false)), (.mov (.t 14))⟩, false, false⟩, ⟨⟨(some 99), (some (96, false)), (.bin true .neq (.t 97) (.t 98))⟩, false, false⟩, ⟨⟨(some 100), none, (.pick (.t 96) (.c (.bool true)) (.t 99))⟩, false, false⟩, ⟨⟨(some 101), none, (.mov (.t 100))⟩, false, false⟩, ⟨⟨(some 102), (some (101, false)), (.mov (.t 11))⟩, false, false⟩, ⟨⟨(some 103), (some (101, false)), (.mov (.t 13))⟩, false, false⟩, ⟨⟨(some 104), (some (101, false)), (.call 19 [(.t 102), (.t 103)])⟩, false, false⟩, ⟨⟨(some 105), (some (101, false)), (.un .not (.t 104))⟩, false, false⟩, ⟨⟨(some 106), none, (.pick (.t 101) (.c (.bool true)) (.t 105))⟩, false, false⟩, ⟨⟨(some 107), none, (.mov (.t 106))⟩, false, false⟩, ⟨⟨(some 108), (some (107, false)), (.mov (.t 19))⟩, false, false⟩, ⟨⟨(some 109), (some (107, false)), (.mov (.t 21))⟩, false, false⟩, ⟨⟨(some 110), (some (107, false)), (.bin true .neq (.t 108) (.t 109))⟩, false, false⟩, ⟨⟨(some 111), none, (.pick (.t 107) (.c (.bool true)) (.t 110))⟩, false, false⟩, ⟨⟨(some 112), none, (.mov (.t 111))⟩, false, false⟩, ⟨⟨(some 113), (some (112, false)), (.mov (.t 18))⟩, false, false⟩, ⟨⟨(some 114), (some (112, false)), (.mov (.t 20))⟩, false, false⟩, ⟨⟨(some 115), (some (112, false)), (.call 19 [(.t 113), (.t 114)])⟩, false, false⟩, ⟨⟨(some 116), (some (112, false)), (.un .not (.t 115))⟩, false, false⟩, ⟨⟨(some 117), none, (.pick (.t 112) (.c (.bool true)) (.t 116))⟩, false, false⟩, ⟨⟨(some 118), none, (.mov (.t 117))⟩, false, false⟩, ⟨⟨(some 119), (some (118, false)), (.ld (some 2) .undef (.t 3))⟩, false, false⟩, ⟨⟨(some 120), (some (118, false)), (.mov (.t 4))⟩, false, false⟩, ⟨⟨(some 121), (some (118, false)), (.mov (.t 5))⟩, false, false⟩, ⟨⟨(some 122), (some (118, false)), (.mov (.t 6))⟩, false, false⟩, ⟨⟨(some 123), (some (118, false)), (.call 20 [(.t 119), (.t 120), (.t 121), (.t 122)])⟩, false, false⟩, ⟨⟨(some 124), (some (118, false)), (.ld (some 2) .undef (.t 3))⟩, false, false⟩, ⟨⟨(some 125), (some (118, false)), (.mov (.t 4))⟩, false, false⟩, ⟨⟨(some 126), (some (118, false)), (.mov (.t 5))⟩, false, false⟩, ⟨⟨(some 127), (some (118, false)), (.mov (.t 6))⟩, false, false⟩, ⟨⟨(some 128), (some (118, false)), (.call 21 [(.t 124), (.t 125), (.t 126), (.t 127)])⟩, false, false⟩, ⟨⟨(some 129), (some (118, false)), (.bin true .neq (.t 123) (.t 128))⟩, false, false⟩, ⟨⟨(some 130), none, (.pick (.t 118) (.c (.bool true)) (.t 129))⟩, false, false⟩, ⟨⟨(some 131), none, (.mov (.t 130))⟩, false, false⟩, ⟨⟨(some 132), (some (131, false)), (.ld (some 2) .undef (.t 3))⟩, false, false⟩, ⟨⟨(some 133), (some (131, false)), (.mov (.t 4))⟩, false, false⟩, ⟨⟨(some 134), (some (131, false)), (.mov (.t 5))⟩, false, false⟩, ⟨⟨(some 135), (some (131, false)), (.mov (.t 6))⟩, false, false⟩, ⟨⟨(some 136), (some (131, false)), (.call 22 [(.t 132), (.t 133), (.t 134), (.t 135)])⟩, false, false⟩, ⟨⟨(some 137), (some (131, false)), (.ld (some 2) .undef (.t 3))⟩, false, false⟩, ⟨⟨(some 138), (some (131, false)), (.mov (.t 4))⟩, false, false⟩, ⟨⟨(some 139), (some (131, false)), (.mov (.t 5))⟩, false, false⟩, ⟨⟨(some 140), (some (131, false)), (.mov (.t 6))⟩, false, false⟩, ⟨⟨(some 141), (some (131, false)), (.call 23 [(.t 137), (.t 138), (.t 139), (.t 140)])⟩, false, false⟩, ⟨⟨(some 142), (some (131, false)), (.bin true .neq (.t 136) (.t 141))⟩, false, false⟩, ⟨⟨(some 143), none, (.pick (.t 131) (.c (.bool true)) (.t 142))⟩, false, false⟩]) (.cond (.t 143) (.seq (.reg [⟨(some 2), none, (.mov (.c (.bool false)))⟩]) .ret) .skip)) (.cut (.seq (.reg [⟨(some 144), none, (.mov (.t 12))⟩, ⟨(some 145), none, (.mov (.t 144))⟩, ⟨(some 146), (some (145, true)), (.mov (.t 4))⟩, ⟨(some 147), (some (145, true)), (.bin false .gtr (.t 146) (.c (.int .i64 1)))⟩, ⟨(some 148), none, (.pick (.t 145) (.t 147) (.c (.bool false)))⟩, ⟨(some 149), none, (.mov (.t 148))⟩, ⟨(some 150), (some (149, true)), (.ld (some 2) .undef (.t 3))⟩, ⟨(some 151), (some (149, true)), (.mov (.t 4))⟩, ⟨(some 152), (some (149, true)), (.bin false .sub (.t 151) (.c (.int .i64 1)))⟩, ⟨(some 153), (some (149, true)), (.mov (.t 5))⟩, ⟨(some 154), (some (149, true)), (.mov (.t 11))⟩, ⟨(some 155), (some (149, true)), (.call 22 [(.t 150), (.t 152), (.t 153), (.t 154)])⟩, ⟨(some 156), (some (149, true)), (.un .not (.t 155))⟩, ⟨(some 157), none, (.pick (.t 149) (.t 156) (.c (.bool false)))⟩]) (.cond (.t 157) (.seq (.reg [⟨(some 2), none, (.mov (.c (.bool false)))⟩]) .ret) .skip)) (.cut (.seq (.reg [⟨(some 158), none, (.mov (.t 8))⟩]) (.cond (.t 158) (.seq (.reg [⟨(some 160), none, (.ld (some 2) .undef (.t 3))⟩, ⟨(some 161), none, (.mov (.t 4))⟩, ⟨(some 162), none, (.bin false .add (.t 161) (.c (.int .i64 1)))⟩, ⟨(some 163), none, (.mov (.t 5))⟩, ⟨(some 164), none, (.mov (.t 7))⟩, ⟨(some 165), none, (.call 14 [(.t 160), (.t 162), (.t 163), (.t 164)])⟩, ⟨(some 159), none, (.mov (.t 165))⟩, ⟨(some 166), none, (.ext 0 (.t 159))⟩, ⟨(some 167), none, (.ext 1 (.t 159))⟩, ⟨(some 22), none, (.mov (.t 166))⟩, ⟨(some 23), none, (.mov (.t 167))⟩]) (.seq (.reg [⟨(some 168), none, (.mov (.t 23))⟩, ⟨(some 169), none, (.un .not (.t 168))⟩, ⟨(some 170), none, (.mov (.t 169))⟩, ⟨(some 171), (some (170, false)), (.mov (.t 22))⟩, ⟨(some 172), (some (170, false)), (.mov (.t 6))⟩, ⟨(some 173), (some (170, false)), (.call 19 [(.t 171), (.t 172)])⟩, ⟨(some 174), (some (170, false)), (.un .not (.t 173))⟩, ⟨(some 175), none, (.pick (.t 170) (.c (.bool true)) (.t 174))⟩, ⟨(some 176), none, (.mov (.t 175))⟩, ⟨(some 177), (some (176, false)), (.ld (some 2) .undef (.t 3))⟩, ⟨(some 178), (some (176, false)), (.mov (.t 4))⟩, ⟨(some 179), (some (176, false)), (.mov (.t 5))⟩, ⟨(some 180), (some (176, false)), (.mov (.t 6))⟩, ⟨(some 181), (some (176, false)), (.call 22 [(.t 177), (.t 178), (.t 179), (.t 180)])⟩, ⟨(some 182), (some (176, false)), (.un .not (.t 181))⟩, ⟨(some 183), none, (.pick (.t 176) (.c (.bool true)) (.t 182))⟩]) (.cond (.t 183) (.seq (.reg [⟨(some 2), none, (.mov (.c (.bool false)))⟩]) .ret) .skip))) .skip)) (.cut (.seq (.reg [⟨(some 184), none, (.mov (.t 19))⟩]) (.cond (.t 184) (.seq (.reg [⟨(some 186), none, (.ld (some 2) .undef (.t 15))⟩, ⟨(some 187), none, (.mov (.t 16))⟩, ⟨(some 188), none, (.mov (.t 17))⟩, ⟨(some 189), none, (.mov (.t 18))⟩, ⟨(some 190), none, (.call 13 [(.t 186), (.t 187), (.t 188), (.t 189)])⟩, ⟨(some 185), none, (.mov (.t 190))⟩, ⟨(some 191), none, (.ext 0 (.t 185))⟩, ⟨(some 192), none, (.ext 1 (.t 185))⟩, ⟨(some 24), none, (.mov (.t 191))⟩, ⟨(some 25), none, (.mov (.t 192))⟩]) (.seq (.reg [⟨(some 193), none, (.mov (.t 25))⟩, ⟨(some 194), none, (.mov (.t 193))⟩, ⟨(some 195), (some (194, false)), (.ld (some 2) .undef (.t 15))⟩, ⟨(some 196), (some (194, false)), (.mov (.t 16))⟩, ⟨(some 197), (some (194, false)), (.mov (.t 17))⟩, ⟨(some 198), (some (194, false)), (.mov (.t 18))⟩, ⟨(some 199), (some (194, false)), (.call 22 [(.t 195), (.t 196), (.t 197), (.t 198)])⟩, ⟨(some 200), (some (194, false)), (.un .not (.t 199))⟩, ⟨(some 201), none, (.pick (.t 194) (.c (.bool true)) (.t 200))⟩]) (.cond (.t 201) (.seq (.reg [⟨(some 2), none, (.mov (.c (.bool false)))⟩]) .ret) .skip))) .skip)) (.seq (.reg [⟨(some 202), none, (.ld (some 2) .undef (.t 15))⟩, ⟨(some 203), none, (.call 24 [(.t 202)])⟩, ⟨(some 204), none, (.un .not (.t 203))⟩, ⟨(some 205), none, (.mov (.t 204))⟩, ⟨(some 206), (some (205, false)), (.mov (.t 17))⟩, ⟨(some 207), (some (205, false)), (.call 25 [(.t 206)])⟩, ⟨(some 208), (some (205, false)), (.un .not (.t 207))⟩, ⟨(some 209), none, (.pick (.t 205) (.c (.bool true)) (.t 208))⟩, ⟨(some 210), none, (.mov (.t 209))⟩, ⟨(some 211), (some (210, false)), (.mov (.t 16))⟩, ⟨(some 212), (some (210, false)), (.bin false .lss (.t 211) (.c (.int .i64 1)))⟩, ⟨(some 213), none, (.pick (.t 210) (.c (.bool true)) (.t 212))⟩, ⟨(some 214), none, (.mov (.t 213))⟩, ⟨(some 215), (some (214, false)), (.mov (.t 16))⟩, ⟨(some 216), (some (214, false)), (.bin false .gtr (.t 215) (.c (.int .i64 5)))⟩, ⟨(some 217), none, (.pick (.t 214) (.c (.bool true)) (.t 216))⟩, ⟨(some 218), none, (.mov (.t 217))⟩, ⟨(some 219), (some (218, false)), (.mov (.t 19))⟩, ⟨(some 220), (some (218, false)), (.ld (some 2) .undef (.t 15))⟩, ⟨(some 221), (some (218, false)), (.mov (.t 17))⟩, ⟨(some 222), (some (218, false)), (.call 27 [(.t 220), (.t 221)])⟩, ⟨(some 223), (some (218, false)), (.mov (.t 16))⟩, ⟨(some 224), (some (218, false)), (.call 26 [(.t 222), (.t 223)])⟩, ⟨(some 225), (some (218, false)), (.bin false .gtr (.t 224) (.c (.int .i64 0)))⟩, ⟨(some 226), (some (218, false)), (.bin true .eql (.t 219) (.t 225))⟩, ⟨(some 227), none, (.pick (.t 218) (.c (.bool true)) (.t 226))⟩, ⟨(some 2), none, (.mov (.t 227))⟩]) .ret)))))))))))))))
theorem code_l_FnChains : fnCode Try.prog [666666, 1000144, 1000158, 1000184, 1000202] 3 = some (228, sc_l_FnChains, [(2, none)]) := by kernel_rfl
open Classical in
noncomputable def F_l_FnChains : List V → Option V
  | [.list 1 cells] => if ∃ b, (∀ x ∈ b, 0 ≤ x ∧ x < 256) ∧ cells = u8s b then some (.bool true) else none
  | _ => none
set_option maxHeartbeats 20000000
theorem fn_l_FnChains : FnOk Try.prog 3 F_l_FnChains := by
  have env := ((((((((((((((((((envNil_ok (P := Try.prog)).add fn_l_big).add fn_l_sameInts).add fn_l_at22).add fn_s_DrawFillChain).add fn_s_DrawHoleCycle).add fn_s_FillChain).add fn_i_FillChain).add fn_s_BorderOfChain).add fn_i_BorderOfChain).add fn_s_HoleCycle).add fn_i_HoleCycle).add fn_s_IsChain).add fn_i_IsChain).add fn_s_IsCycle).add fn_i_IsCycle).add fn_s_IsComplex).add fn_s_IsFieldPrime).add fn_s_HolesMod
  refine fn_ok code_l_FnChains mixed env ?_
  intro args r h hb
  unfold F_l_FnChains at h
  split at h
  case h_2 => simp at h
  rename_i cells
  simp only [Option.ite_none_right_eq_some, Option.some.injEq] at h
  obtain ⟨⟨b, hbr, rfl⟩, rfl⟩ := h
  clear hb
  refine ⟨by simp, fun w0 U0 L0 N0 => ?_⟩
  have hBig : F_l_big [.list 1 (u8s b)] = some (.bool (decide (1048576 < b.length))) := by simp only [F_l_big, u8s_len]
  by_cases hlong : 1048576 < b.length
  · rw [decide_eq_true hlong] at hBig
    simp -implicitDefEqProofs [sc_l_FnChains, hBig]
  rw [decide_eq_false hlong] at hBig
  have hw : wfb b := ⟨hbr, by omega⟩
  have hD1 : F_s_DrawFillChain [.list 1 (u8s b)] = some (.tup [.agg [.int .i64 (bentN (newCur b)).1.1, .own 1 (ints (bentN (newCur b)).1.2)], .int .i64 (1 + (belowN (newCur b) 3).1), .int .i64 (pickN (bentN (newCur b)).2 qLs),
    .own 1 (ints (chainN (bentN (newCur b)).1.1 (bentN (newCur b)).1.2 (1 + (belowN (newCur b) 3).1) (pickN (bentN (newCur b)).2 qLs) (belowN (newCur b) 3).2))]) := by
    simp only [F_s_DrawFillChain, F_s_l16Case, F1_mk, dBy_list hw, Option.bind_some]
  have hD2 : F_s_DrawHoleCycle [.list 1 (u8s b)] = some (.tup [.agg [.int .i64 (bentN (newCur b)).1.1, .own 1 (ints (bentN (newCur b)).1.2)], .int .i64 (belowN (newCur b) 5).1, .int .i64 (pickN (bentN (newCur b)).2 qLs)]) := by
    simp only [F_s_DrawHoleCycle, F1_mk, dBy_list hw, Option.bind_some]
  have r1 := belowN_rng (newCur b) (n := 3) (by omega)
  have r2 := belowN_rng (newCur b) (n := 5) (by omega)
  generalize chainN (bentN (newCur b)).1.1 (bentN (newCur b)).1.2 (1 + (belowN (newCur b) 3).1) (pickN (bentN (newCur b)).2 qLs) (belowN (newCur b) 3).2 = X at *
  generalize pickN (bentN (newCur b)).2 qLs = p at *
  generalize (belowN (newCur b) 3).1 = j at *
  generalize (belowN (newCur b) 5).1 = m at *
  generalize (bentN (newCur b)).1 = c1 at *
  obtain ⟨n, l⟩ := c1
  obtain ⟨k, hk⟩ : ∃ k, 1 + j = k := ⟨_, rfl⟩
  simp only [hk] at hD1 hD2
  clear hw hbr
  have hFC : ∀ k x, F_s_FillChain [.agg [.int .i64 n, .list 1 (ints l)], .int .i64 k, .int .i64 p, .list 1 (ints x)] = some (.tup [.own 1 (ints (fchL n l k p x)), .bool (dec (fchP n l k p x))]) := fun k x => by
    simp only [F_s_FillChain, F4_mk, dC_agg, dI_int, dL_list, Option.bind_some]
  have hBC : ∀ k x, F_s_BorderOfChain [.agg [.int .i64 n, .list 1 (ints l)], .int .i64 k, .int .i64 p, .list 1 (ints x)] = some (.tup [.own 1 (ints (bochL n l k p x)), .bool (dec (chnP n l k p x))]) := fun k x => by
    simp only [F_s_BorderOfChain, F4_mk, dC_agg, dI_int, dL_list, Option.bind_some]
  have hCy : ∀ k x, F_s_IsCycle [.agg [.int .i64 n, .list 1 (ints l)], .int .i64 k, .int .i64 p, .list 1 (ints x)] = some (.bool (dec (cycP n l k p x))) := fun k x => by
    simp only [F_s_IsCycle, F4_mk, dC_agg, dI_int, dL_list, Option.bind_some]
  have hCh : F_s_IsChain [.agg [.int .i64 n, .list 1 (ints l)], .int .i64 k, .int .i64 p, .list 1 (ints X)] = some (.bool (dec (chnP n l k p X))) := by
    simp only [F_s_IsChain, F4_mk, dC_agg, dI_int, dL_list, Option.bind_some]
  have hHC : F_s_HoleCycle [.agg [.int .i64 n, .list 1 (ints l)], .int .i64 m, .int .i64 p] = some (.tup [.own 1 (ints (hcF n l m p).1), .bool (hcF n l m p).2]) := by
    simp only [F_s_HoleCycle, F3_mk, dC_agg, dI_int, Option.bind_some]
  have hIC : F_s_IsComplex [.agg [.int .i64 n, .list 1 (ints l)]] = some (.bool (cplxB n l)) := by
    simp only [F_s_IsComplex, F1_mk, dC_agg, Option.bind_some]
  have hFP : F_s_IsFieldPrime [.int .i64 p] = some (.bool (dec (fpP p))) := by simp only [F_s_IsFieldPrime, F1_mk, dI_int, Option.bind_some]
  have hHM : F_s_HolesMod [.agg [.int .i64 n, .list 1 (ints l)], .int .i64 p] = some (.own 1 (ints (hmL n l p))) := by
    simp only [F_s_HolesMod, F2_mk, dC_agg, dI_int, Option.bind_some]
  have hAt : ∀ a : List Int, F_l_at22 [.list 1 (ints a), .int .i64 m] = some (.int .i64 (atZ a m)) := fun a => by
    simp only [F_l_at22, F2_mk, dL_list, dI_int, Option.bind_some]
  have hI : ∀ a b : List Int, F_l_sameInts [.list 1 (ints a), .list 1 (ints b)] = some (.bool (dec (a = b))) := fun a b => by
    simp only [F_l_sameInts, F2_mk, dL_list, Option.bind_some]
  have hE : dec True = true := dec_iff.2 trivial
  have wk1 : IntKind.i64.wrap (k - 1) = k - 1 := wrapI _ (by omega) (by omega)
  have wk2 : IntKind.i64.wrap (k + 1) = k + 1 := wrapI _ (by omega) (by omega)
  have p1 : dec (chnP n l k p X) = false ∨ (dec (chnP n l k p X) = true ∧ ¬ 1 < k) ∨ (dec (chnP n l k p X) = true ∧ 1 < k ∧ F_s_IsCycle [.agg [.int .i64 n, .list 1 (ints l)], .int .i64 (k - 1), .int .i64 p, .list 1 (ints (bochL n l k p X))] = some (.bool true)) := by
    by_cases h : chnP n l k p X
    · by_cases h1 : 1 < k
      · exact .inr (.inr ⟨dec_true h, h1, by rw [hCy, dec_true (boch_cyc h h1)]⟩)
      · exact .inr (.inl ⟨dec_true h, h1⟩)
    · exact .inl (dec_false h)
  have p2 : dec (fchP n l k p X) = false ∨ (dec (fchP n l k p X) = true ∧ F_s_BorderOfChain [.agg [.int .i64 n, .list 1 (ints l)], .int .i64 (k + 1), .int .i64 p, .list 1 (ints (fchL n l k p X))] = some (.tup [.own 1 (ints X), .bool true]) ∧ F_s_IsCycle [.agg [.int .i64 n, .list 1 (ints l)], .int .i64 k, .int .i64 p, .list 1 (ints X)] = some (.bool true)) := by
    by_cases h : fchP n l k p X
    · obtain ⟨h1, h2⟩ := fch_back h
      exact .inr ⟨dec_true h, by rw [hBC, dec_true h1, h2], by rw [hCy, dec_true (fch_cyc h)]⟩
    · exact .inl (dec_false h)
  have p3 : (hcF n l m p).2 = false ∨ ((hcF n l m p).2 = true ∧ F_s_FillChain [.agg [.int .i64 n, .list 1 (ints l)], .int .i64 m, .int .i64 p, .list 1 (ints (hcF n l m p).1)] = some (.tup [.own 1 (ints (fchL n l m p (hcF n l m p).1)), .bool false]) ∧ F_s_IsCycle [.agg [.int .i64 n, .list 1 (ints l)], .int .i64 m, .int .i64 p, .list 1 (ints (hcF n l m p).1)] = some (.bool true)) := by
    cases h : (hcF n l m p).2 with
    | false => exact .inl rfl
    | true =>
      obtain ⟨h1, h2⟩ := hcF_ok h
      exact .inr ⟨rfl, by rw [hFC, dec_false h2], by rw [hCy, dec_true h1]⟩
  have p4 : cplxB n l = false ∨ (cplxB n l = true ∧ (dec (fpP p) = false ∨ (dec (fpP p) = true ∧ (m < 1 ∨ (¬ m < 1 ∧ (hcF n l m p).2 = decide (0 < atZ (hmL n l p) m)))))) := by
    cases h0 : cplxB n l with
    | false => exact .inl rfl
    | true =>
      refine .inr ⟨rfl, ?_⟩
      by_cases h1 : fpP p
      · refine .inr ⟨dec_true h1, ?_⟩
        by_cases h2 : m < 1
        · exact .inl h2
        · refine .inr ⟨h2, ?_⟩
          rw [Bool.eq_iff_iff, decide_eq_true_iff]
          exact hcF_iff ⟨cplxB_iff.1 h0, by omega, by omega, h1⟩
      · exact .inl (dec_false h1)
  have a1 := hFC k X
  have a2 := hBC k X
  have a3 := hCy k X
  clear hFC hBC hCy
  generalize dec (chnP n l k p X) = one at *
  generalize dec (fchP n l k p X) = ok at *
  generalize dec (cycP n l k p X) = cy at *
  generalize fchL n l m p (hcF n l m p).1 = WW at *
  generalize hcF n l m p = hc at *
  obtain ⟨Z, three⟩ := hc
  simp only at hHC p3 p4
  generalize bochL n l k p X = B at *
  generalize fchL n l k p X = Y at *
  generalize hmL n l p = HM at *
  generalize cplxB n l = cb at *
  generalize dec (fpP p) = fp at *
  simp -implicitDefEqProofs [sc_l_FnChains, freeOk, hBig, hD1, hD2, a1, a2, hHC]
  refine CutI.of (l' := [(3, .pt 2 0), (4, .int .i64 k), (5, .int .i64 p), (6, .sl 1 1 0 X.length), (7, .sl 3 1 0 Y.length), (8, .bool ok), (9, .sl 4 1 0 Y.length), (10, .bool ok), (11, .sl 5 1 0 B.length), (12, .bool one), (13, .sl 6 1 0 B.length), (14, .bool one), (15, .pt 8 0), (16, .int .i64 m), (17, .int .i64 p), (18, .sl 9 1 0 Z.length), (19, .bool three), (20, .sl 10 1 0 Z.length), (21, .bool three)]) (SubI.slots rfl (by simp)) ?_
  clear hD1 hD2 hBig
  simp -implicitDefEqProofs [freeOk, a3, hCh, hI, hE]
  refine CutI.of (l' := [(3, .pt 2 0), (4, .int .i64 k), (5, .int .i64 p), (6, .sl 1 1 0 X.length), (7, .sl 3 1 0 Y.length), (8, .bool ok), (11, .sl 5 1 0 B.length), (12, .bool one), (15, .pt 8 0), (16, .int .i64 m), (17, .int .i64 p), (18, .sl 9 1 0 Z.length), (19, .bool three)]) (SubI.slots rfl (by simp)) ?_
  clear a3 hCh
  rcases p1 with rfl | ⟨rfl, h1⟩ | ⟨rfl, h1, q1⟩
  case' inl => simp -implicitDefEqProofs [freeOk]
  case' inr.inl => simp -implicitDefEqProofs [freeOk, h1]
  case' inr.inr => simp -implicitDefEqProofs [freeOk, h1, wk1, q1]
  all_goals
    refine CutI.of (l' := [(3, .pt 2 0), (4, .int .i64 k), (5, .int .i64 p), (6, .sl 1 1 0 X.length), (7, .sl 3 1 0 Y.length), (8, .bool ok), (15, .pt 8 0), (16, .int .i64 m), (17, .int .i64 p), (18, .sl 9 1 0 Z.length), (19, .bool three)]) (SubI.slots rfl (by simp)) ?_
    rcases p2 with rfl | ⟨rfl, q2, q3⟩
    case' inl => simp -implicitDefEqProofs [freeOk]
    case' inr => simp -implicitDefEqProofs [freeOk, wk2, q2, q3, hI, hE]
    all_goals
      refine CutI.of (l' := [(15, .pt 8 0), (16, .int .i64 m), (17, .int .i64 p), (18, .sl 9 1 0 Z.length), (19, .bool three)]) (SubI.slots rfl (by simp)) ?_
      rcases p3 with rfl | ⟨rfl, q4, q5⟩
      case' inl =>
        simp -implicitDefEqProofs [freeOk]
        refine CutI.of (l' := [(15, .pt 8 0), (16, .int .i64 m), (17, .int .i64 p), (19, .bool false)]) (SubI.slots rfl (by simp)) ?_
      case' inr =>
        simp -implicitDefEqProofs [freeOk, q4, q5]
        refine CutI.of (l' := [(15, .pt 8 0), (16, .int .i64 m), (17, .int .i64 p), (19, .bool true)]) (SubI.slots rfl (by simp)) ?_
      all_goals
        rcases p4 with rfl | ⟨rfl, rfl | ⟨rfl, h5 | ⟨h5, h6⟩⟩⟩
        · simp -implicitDefEqProofs [freeOk, hIC]
        · simp -implicitDefEqProofs [freeOk, hIC, hFP]
        · simp -implicitDefEqProofs [freeOk, hIC, hFP, h5]
        · have h7 : ¬ 5 < m := by omega
          have h8 := hAt HM
          rw [eq_comm] at h6
          simp -implicitDefEqProofs [freeOk, hIC, hFP, h5, h7, hHM, h8, h6]
end Go.Proofs.Ytmemomfffehnkaa
