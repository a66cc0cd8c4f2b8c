import Derived.Test.YtmemomfffehnkaaCoA
import Derived.Test.YtmemomfffehnkaaCoB
import Derived.Test.YtmemomfffehnkaaCoD
import Derived.Test.YtmemomfffehnkaaCoE
import Derived.Test.YtmemomfffehnkaaFfA
import Derived.Test.YtmemomfffehnkaaFfB
namespace Go.Proofs.Ytmemomfffehnkaa
open Go Go.RowKit
set_option maxRecDepth 1000000
set_option linter.unusedSimpArgs false
set_option linter.unusedVariables false
set_option maxHeartbeats 1000000
def sc_l_FnCollapses_L0 : SC := (.seq (.seq (.reg [⟨(some 162), none, (.mov (.t 22))⟩, ⟨(some 163), none, (.mov (.t 20))⟩, ⟨(some 164), none, (.len (.t 163))⟩, ⟨(some 165), none, (.bin false .lss (.t 162) (.t 164))⟩]) (.cond (.t 165) .skip (.exit 0))) (.seq (.block 1 (.seq (.reg [⟨(some 168), none, (.mov (.t 20))⟩, ⟨(some 169), none, (.mov (.t 22))⟩, ⟨(some 170), none, (.idx 1 (.t 168) (.t 169))⟩, ⟨(some 171), none, (.ld none (.int .i64 0) (.t 170))⟩, ⟨(some 172), none, (.mov (.t 4))⟩, ⟨(some 173), none, (.bin false .and (.t 171) (.t 172))⟩, ⟨(some 174), none, (.mov (.t 4))⟩, ⟨(some 175), none, (.bin false .eql (.t 173) (.t 174))⟩, ⟨(some 176), none, (.mov (.t 175))⟩, ⟨(some 177), (some (176, true)), (.mov (.t 20))⟩, ⟨(some 178), (some (176, true)), (.mov (.t 22))⟩, ⟨(some 179), (some (176, true)), (.idx 1 (.t 177) (.t 178))⟩, ⟨(some 180), (some (176, true)), (.ld none (.int .i64 0) (.t 179))⟩, ⟨(some 181), (some (176, true)), (.mov (.t 4))⟩, ⟨(some 182), (some (176, true)), (.bin false .neq (.t 180) (.t 181))⟩, ⟨(some 183), none, (.pick (.t 176) (.t 182) (.c (.bool false)))⟩]) (.cond (.t 183) (.reg [⟨(some 184), none, (.mov (.t 20))⟩, ⟨(some 185), none, (.mov (.t 22))⟩, ⟨(some 186), none, (.idx 1 (.t 184) (.t 185))⟩, ⟨(some 187), none, (.ld none (.int .i64 0) (.t 186))⟩, ⟨(some 21), none, (.mov (.t 187))⟩]) .skip))) (.reg [⟨(some 166), none, (.mov (.t 22))⟩, ⟨(some 167), none, (.bin false .add (.t 166) (.c (.int .i64 1)))⟩, ⟨(some 22), none, (.mov (.t 167))⟩])))
def sc_l_FnCollapses : SC := (.seq (.reg [⟨(some 2), none, (.mov (.c (.bool false)))⟩]) (.seq (.seq (.reg [⟨(some 23), none, (.mov (.t 0))⟩, ⟨(some 24), none, (.call 10 [(.t 23)])⟩]) (.cond (.t 24) (.seq (.reg [⟨(some 2), none, (.mov (.c (.bool true)))⟩]) .ret) .skip)) (.seq (.reg [⟨(some 26), none, (.mov (.t 0))⟩, ⟨(some 27), none, (.call 63 [(.t 26)])⟩, ⟨(some 25), none, (.mov (.t 27))⟩, ⟨(some 28), none, (.ext 0 (.t 25))⟩, ⟨(some 29), none, (.ext 1 (.t 25))⟩, ⟨(some 3), none, (.new [(.int .i64 0), .nil])⟩, ⟨none, none, (.st 2 (.t 3) (.t 28))⟩, ⟨(some 4), none, (.mov (.t 29))⟩]) (.seq (.reg [⟨(some 31), none, (.ld (some 2) .undef (.t 3))⟩, ⟨(some 32), none, (.mov (.t 4))⟩, ⟨(some 33), none, (.call 64 [(.t 31), (.t 32)])⟩, ⟨(some 30), none, (.mov (.t 33))⟩, ⟨(some 34), none, (.ext 0 (.t 30))⟩, ⟨(some 35), none, (.ext 1 (.t 30))⟩, ⟨(some 5), none, (.new [(.int .i64 0), .nil])⟩, ⟨none, none, (.st 2 (.t 5) (.t 34))⟩, ⟨(some 6), none, (.mov (.t 35))⟩]) (.seq (.reg [⟨(some 37), none, (.ld (some 2) .undef (.t 3))⟩, ⟨(some 38), none, (.mov (.t 4))⟩, ⟨(some 39), none, (.call 65 [(.t 37), (.t 38)])⟩, ⟨(some 36), none, (.mov (.t 39))⟩, ⟨(some 40), none, (.ext 0 (.t 36))⟩, ⟨(some 41), none, (.ext 1 (.t 36))⟩, ⟨(some 7), none, (.new [(.int .i64 0), .nil])⟩, ⟨none, none, (.st 2 (.t 7) (.t 40))⟩, ⟨(some 8), none, (.mov (.t 41))⟩]) (.seq (.reg [⟨(some 42), none, (.mov (.t 0))⟩, ⟨(some 43), none, (.call 66 [(.t 42)])⟩, ⟨(some 9), none, (.new [(.int .i64 0), .nil])⟩, ⟨none, none, (.st 2 (.t 9) (.t 43))⟩]) (.seq (.reg [⟨(some 45), none, (.ld (some 2) .undef (.t 9))⟩, ⟨(some 46), none, (.call 67 [(.t 45)])⟩, ⟨(some 44), none, (.mov (.t 46))⟩, ⟨(some 47), none, (.ext 0 (.t 44))⟩, ⟨(some 48), none, (.ext 1 (.t 44))⟩, ⟨(some 49), none, (.ext 2 (.t 44))⟩, ⟨(some 10), none, (.new [(.int .i64 0), .nil])⟩, ⟨none, none, (.st 2 (.t 10) (.t 47))⟩, ⟨(some 11), none, (.mov (.t 48))⟩, ⟨(some 12), none, (.mov (.t 49))⟩]) (.seq (.reg [⟨(some 51), none, (.ld (some 2) .undef (.t 9))⟩, ⟨(some 52), none, (.call 68 [(.t 51)])⟩, ⟨(some 50), none, (.mov (.t 52))⟩, ⟨(some 53), none, (.ext 0 (.t 50))⟩, ⟨(some 54), none, (.ext 1 (.t 50))⟩, ⟨(some 55), none, (.ext 2 (.t 50))⟩, ⟨(some 13), none, (.new [(.int .i64 0), .nil])⟩, ⟨none, none, (.st 2 (.t 13) (.t 53))⟩, ⟨(some 14), none, (.mov (.t 54))⟩, ⟨(some 15), none, (.mov (.t 55))⟩]) (.seq (.reg [⟨(some 57), none, (.mov (.t 0))⟩, ⟨(some 58), none, (.call 69 [(.t 57)])⟩, ⟨(some 56), none, (.mov (.t 58))⟩, ⟨(some 59), none, (.ext 0 (.t 56))⟩, ⟨(some 60), none, (.ext 1 (.t 56))⟩, ⟨(some 61), none, (.ext 2 (.t 56))⟩, ⟨(some 16), none, (.new [(.int .i64 0), .nil])⟩, ⟨none, none, (.st 2 (.t 16) (.t 59))⟩, ⟨(some 17), none, (.mov (.t 60))⟩, ⟨(some 18), none, (.mov (.t 61))⟩]) (.cut (.reg [⟨(some 62), none, (.mov (.t 0))⟩, ⟨(some 63), none, (.call 70 [(.t 62)])⟩, ⟨(some 19), none, (.new [(.int .i64 0), .nil])⟩, ⟨none, none, (.st 2 (.t 19) (.t 63))⟩]) (.cut (.seq (.dreg [⟨⟨(some 64), none, (.mov (.t 6))⟩, false, false⟩, ⟨⟨(some 65), none, (.mov (.t 8))⟩, false, false⟩, ⟨⟨(some 66), none, (.bin true .neq (.t 64) (.t 65))⟩, false, false⟩, ⟨⟨(some 67), none, (.mov (.t 66))⟩, false, false⟩, ⟨⟨(some 68), (some (67, false)), (.ld (some 2) .undef (.t 5))⟩, false, false⟩, ⟨⟨(some 69), (some (67, false)), (.ld (some 2) .undef (.t 7))⟩, false, false⟩, ⟨⟨(some 70), (some (67, false)), (.call 71 [(.t 68), (.t 69)])⟩, false, false⟩, ⟨⟨(some 71), (some (67, false)), (.un .not (.t 70))⟩, false, false⟩, ⟨⟨(some 72), none, (.pick (.t 67) (.c (.bool true)) (.t 71))⟩, false, false⟩, ⟨⟨(some 73), none, (.mov (.t 72))⟩, false, false⟩, ⟨⟨(some 74), (some (73, false)), (.mov (.t 12))⟩, false, false⟩, ⟨⟨(some 75), (some (73, false)), (.mov (.t 15))⟩, false, false⟩, ⟨⟨(some 76), (some (73, false)), (.bin true .neq (.t 74) (.t 75))⟩, false, false⟩, ⟨⟨(some 77), none, (.pick (.t 73) (.c (.bool true)) (.t 76))⟩, false, false⟩, ⟨⟨(some 78), none, (.mov (.t 77))⟩, false, false⟩, ⟨⟨(some 79), (some (78, false)), (.ld (some 2) .undef (.t 10))⟩, false, false⟩, ⟨⟨(some 80), (some (78, false)), (.ld (some 2) .undef (.t 13))⟩, false, false⟩, ⟨⟨(some 81), (some (78, false)), (.call 71 [(.t 79), (.t 80)])⟩, false, false⟩, ⟨⟨(some 82), (some (78, false)), (.un .not (.t 81))⟩, false, false⟩, ⟨⟨(some 83), none, (.pick (.t 78) (.c (.bool true)) (.t 82))⟩, false, false⟩, ⟨⟨(some 84), none, (.mov (.t 83))⟩, false, false⟩, ⟨⟨(some 85), (some (84, false)), (.mov (.t 11))⟩, false, false⟩, ⟨⟨(some 86), (some (84, false)), (.mov (.t 14))⟩, false, false⟩, ⟨⟨(some 87), (some (84, false)), (.call 19 [(.t 85), (.t 86)])⟩, false, false⟩, ⟨⟨(some 88), (some (84, false)), (.un .not (.t 87))⟩, false, false⟩, ⟨⟨(some 89), none, (.pick (.t 84) (.c (.bool true)) (.t 88))⟩, false, false⟩, ⟨⟨(some 90), none, (.mov (.t 89))⟩, false, false⟩, ⟨⟨(some 91), (some (90, false)), (.ld (some 2) .undef (.t 16))⟩, false, false⟩, ⟨⟨(some 92), (some (90, false)), (.mov (.t 17))⟩, false, false⟩, ⟨⟨(some 93), (some (90, false)), (.mov (.t 18))⟩, false, false⟩, ⟨⟨(some 94), (some (90, false)), (.call 72 [(.t 91), (.t 92), (.t 93)])⟩, false, false⟩, ⟨⟨(some 95), (some (90, false)), (.ld (some 2) .undef (.t 16))⟩, false, false⟩, ⟨⟨(some 96), (some (90, false)), (.mov (.t 17))⟩, false, false⟩, ⟨⟨(some 97), (some (90, false)), (.mov (.t 18))⟩, false, false⟩, ⟨⟨(some 98), (some (90, false)), (.call 73 [(.t 95), (.t 96), (.t 97)])⟩, false, false⟩, ⟨⟨(some 99), (some (90, false)), (.bin true .neq (.t 94) (.t 98))⟩, false, false⟩, ⟨⟨(some 100), none, (.pick (.t 90) (.c (.bool true)) (.t 99))⟩, false, false⟩, ⟨⟨(some 101), none, (.mov (.t 100))⟩, false, false⟩, ⟨⟨(some 102), (some (101, false)), (.ld (some 2) .undef (.t 19))⟩, false, false⟩, ⟨⟨(some 103), (some (101, false)), (.call 74 [(.t 102)])⟩, false, false⟩, ⟨⟨(some 104), (some (101, false)), (.ld (some 2) .undef (.t 19))⟩, false, false⟩, ⟨⟨(some 105), (some (101, false)), (.call 75 [(.t 104)])⟩, false, false⟩, ⟨⟨(some 106), (some (101, false)), (.bin true .neq (.t 103) (.t 105))⟩, false, false⟩, ⟨⟨(some 107), none, (.pick (.t 101) (.c (.bool true)) (.t 106))⟩, false, false⟩, ⟨⟨(some 108), none, (.mov (.t 107))⟩, false, false⟩, ⟨⟨(some 109), (some (108, false)), (.ld (some 2) .undef (.t 3))⟩, false, false⟩, ⟨⟨(some 110), (some (108, false)), (.call 76 [(.t 109)])⟩, false, false⟩, ⟨⟨(some 111), (some (108, false)), (.ld (some 2) .undef (.t 3))⟩, false, false⟩, ⟨⟨(some 112), (some (108, false)), (.call 77 [(.t 111)])⟩, false, false⟩, ⟨⟨(some 113), (some (108, false)), (.call 19 [(.t 110), (.t 112)])⟩, false, false⟩, ⟨⟨(some 114), (some (108, false)), (.un .not (.t 113))⟩, false, false⟩, ⟨⟨(some 115), none, (.pick (.t 108) (.c (.bool true)) (.t 114))⟩, false, false⟩]) (.cond (.t 115) (.seq (.reg [⟨(some 2), none, (.mov (.c (.bool false)))⟩]) .ret) .skip)) (.cut (.seq (.reg [⟨(some 116), none, (.mov (.t 12))⟩]) (.cond (.t 116) (.seq (.dreg [⟨⟨(some 117), none, (.ld (some 2) .undef (.t 10))⟩, false, false⟩, ⟨⟨(some 118), none, (.call 74 [(.t 117)])⟩, false, false⟩, ⟨⟨(some 119), none, (.un .not (.t 118))⟩, false, false⟩, ⟨⟨(some 120), none, (.mov (.t 119))⟩, false, false⟩, ⟨⟨(some 121), (some (120, false)), (.ld (some 2) .undef (.t 10))⟩, false, false⟩, ⟨⟨(some 122), (some (120, false)), (.call 78 [(.t 121)])⟩, false, false⟩, ⟨⟨(some 123), (some (120, false)), (.ld (some 2) .undef (.t 9))⟩, false, false⟩, ⟨⟨(some 124), (some (120, false)), (.call 78 [(.t 123)])⟩, false, false⟩, ⟨⟨(some 125), (some (120, false)), (.bin false .neq (.t 122) (.t 124))⟩, false, false⟩, ⟨⟨(some 126), none, (.pick (.t 120) (.c (.bool true)) (.t 125))⟩, false, false⟩, ⟨⟨(some 127), none, (.mov (.t 126))⟩, false, false⟩, ⟨⟨(some 128), (some (127, false)), (.ld (some 2) .undef (.t 10))⟩, false, false⟩, ⟨⟨(some 129), (some (127, false)), (.call 79 [(.t 128), (.c (.int .i64 2))])⟩, false, false⟩, ⟨⟨(some 130), (some (127, false)), (.ld (some 2) .undef (.t 9))⟩, false, false⟩, ⟨⟨(some 131), (some (127, false)), (.call 79 [(.t 130), (.c (.int .i64 2))])⟩, false, false⟩, ⟨⟨(some 132), (some (127, false)), (.bin false .neq (.t 129) (.t 131))⟩, false, false⟩, ⟨⟨(some 133), none, (.pick (.t 127) (.c (.bool true)) (.t 132))⟩, false, false⟩, ⟨⟨(some 134), none, (.mov (.t 133))⟩, false, false⟩, ⟨⟨(some 135), (some (134, false)), (.ld (some 2) .undef (.t 10))⟩, false, false⟩, ⟨⟨(some 136), (some (134, false)), (.call 79 [(.t 135), (.c (.int .i64 3))])⟩, false, false⟩, ⟨⟨(some 137), (some (134, false)), (.ld (some 2) .undef (.t 9))⟩, false, false⟩, ⟨⟨(some 138), (some (134, false)), (.call 79 [(.t 137), (.c (.int .i64 3))])⟩, false, false⟩, ⟨⟨(some 139), (some (134, false)), (.bin false .neq (.t 136) (.t 138))⟩, false, false⟩, ⟨⟨(some 140), none, (.pick (.t 134) (.c (.bool true)) (.t 139))⟩, false, false⟩, ⟨⟨(some 141), none, (.mov (.t 140))⟩, false, false⟩, ⟨⟨(some 142), (some (141, false)), (.ld (some 2) .undef (.t 9))⟩, false, false⟩, ⟨⟨(some 143), (some (141, false)), (.call 43 [(.t 142)])⟩, false, false⟩, ⟨⟨(some 144), (some (141, false)), (.len (.t 143))⟩, false, false⟩, ⟨⟨(some 145), (some (141, false)), (.ld (some 2) .undef (.t 10))⟩, false, false⟩, ⟨⟨(some 146), (some (141, false)), (.call 43 [(.t 145)])⟩, false, false⟩, ⟨⟨(some 147), (some (141, false)), (.len (.t 146))⟩, false, false⟩, ⟨⟨(some 148), (some (141, false)), (.bin false .sub (.t 144) (.t 147))⟩, false, false⟩, ⟨⟨(some 149), (some (141, false)), (.mov (.t 11))⟩, false, false⟩, ⟨⟨(some 150), (some (141, false)), (.len (.t 149))⟩, false, false⟩, ⟨⟨(some 151), (some (141, false)), (.bin false .mul (.c (.int .i64 2)) (.t 150))⟩, false, false⟩, ⟨⟨(some 152), (some (141, false)), (.bin false .neq (.t 148) (.t 151))⟩, false, false⟩, ⟨⟨(some 153), none, (.pick (.t 141) (.c (.bool true)) (.t 152))⟩, false, false⟩]) (.cond (.t 153) (.seq (.reg [⟨(some 2), none, (.mov (.c (.bool false)))⟩]) .ret) .skip)) .skip)) (.seq (.seq (.reg [⟨(some 154), none, (.mov (.t 6))⟩, ⟨(some 155), none, (.un .not (.t 154))⟩, ⟨(some 156), none, (.mov (.t 155))⟩, ⟨(some 157), (some (156, false)), (.mov (.t 4))⟩, ⟨(some 158), (some (156, false)), (.bin false .eql (.t 157) (.c (.int .i64 0)))⟩, ⟨(some 159), none, (.pick (.t 156) (.c (.bool true)) (.t 158))⟩]) (.cond (.t 159) (.seq (.reg [⟨(some 2), none, (.mov (.c (.bool true)))⟩]) .ret) .skip)) (.seq (.reg [⟨(some 160), none, (.ld (some 2) .undef (.t 3))⟩, ⟨(some 161), none, (.call 43 [(.t 160)])⟩, ⟨(some 20), none, (.mov (.t 161))⟩]) (.seq (.reg [⟨(some 21), none, (.mov (.c (.int .i64 0)))⟩]) (.seq (.seq (.reg [⟨(some 22), none, (.mov (.c (.int .i64 0)))⟩]) (.block 0 (.loop sc_l_FnCollapses_L0))) (.seq (.reg [⟨(some 188), none, (.ld (some 2) .undef (.t 5))⟩, ⟨(some 189), none, (.mov (.t 4))⟩, ⟨(some 190), none, (.mov (.t 21))⟩, ⟨(some 191), none, (.call 72 [(.t 188), (.t 189), (.t 190)])⟩, ⟨(some 192), none, (.mov (.t 191))⟩, ⟨(some 193), (some (192, true)), (.ld (some 2) .undef (.t 5))⟩, ⟨(some 194), (some (192, true)), (.call 43 [(.t 193)])⟩, ⟨(some 195), (some (192, true)), (.len (.t 194))⟩, ⟨(some 196), (some (192, true)), (.mov (.t 20))⟩, ⟨(some 197), (some (192, true)), (.len (.t 196))⟩, ⟨(some 198), (some (192, true)), (.bin false .sub (.t 197) (.c (.int .i64 2)))⟩, ⟨(some 199), (some (192, true)), (.bin false .eql (.t 195) (.t 198))⟩, ⟨(some 200), none, (.pick (.t 192) (.t 199) (.c (.bool false)))⟩, ⟨(some 2), none, (.mov (.t 200))⟩]) .ret)))))))))))))))))
theorem code_l_FnCollapses : fnCode Try.prog [666666, 1000116, 1000154] 6 = some (201, sc_l_FnCollapses, [(2, none)]) := by kernel_rfl
open Classical in
noncomputable def F_l_FnCollapses : List V → Option V
  | [.list 1 cells] => if ∃ b, (∀ x ∈ b, 0 ≤ x ∧ x < 256) ∧ cells = u8s b then some (.bool true) else none
  | _ => none
open Classical in
/-- What has been found of t among the first k numbers. -/
noncomputable def hiV (F : List Int) (t : Int) (k : Nat) : Int := if ∃ j, j < k ∧ at0 F j = t then t else 0
theorem hiV_zero (F : List Int) (t : Int) : hiV F t 0 = 0 := if_neg fun ⟨j, h, _⟩ => by omega
theorem hiV_hit {F : List Int} {t : Int} {k : Nat} (h : at0 F k = t) : hiV F t (k + 1) = t := if_pos ⟨k, by omega, h⟩
theorem hiV_skip {F : List Int} {t : Int} {k : Nat} (h : at0 F k ≠ t) : hiV F t (k + 1) = hiV F t k := by
  unfold hiV
  by_cases e : ∃ j, j < k ∧ at0 F j = t
  · obtain ⟨j, h1, h2⟩ := id e
    rw [if_pos e, if_pos ⟨j, by omega, h2⟩]
  · rw [if_neg e, if_neg fun ⟨j, h1, h2⟩ => by
      rcases Nat.lt_succ_iff_lt_or_eq.1 h1 with h3 | rfl
      · exact e ⟨j, h3, h2⟩
      · exact h h2]
theorem hiV_all {F : List Int} {t : Int} (h : t ∈ F) : hiV F t F.length = t := by
  obtain ⟨j, hj, e⟩ := getD_mem_iff.1 h
  exact if_pos ⟨j, hj, e⟩
set_option maxHeartbeats 20000000
theorem fn_l_FnCollapses : FnOk Try.prog 6 F_l_FnCollapses := by
  have env := ((((((((((((((((((((envNil_ok (P := Try.prog)).add fn_l_big).add fn_l_sameInts).add fn_l_sameComplex).add fn_s_DrawCollapseAt).add fn_s_DrawCollapseAll).add fn_s_DrawCanExpand).add fn_s_DrawIsCollapsed).add fn_s_CollapseAt).add fn_i_CollapseAt).add fn_s_CollapseAll).add fn_i_CollapseAll).add fn_s_CanExpand).add fn_i_CanExpand).add fn_s_IsCollapsed).add fn_i_IsCollapsed).add fn_s_FreeFaces).add fn_i_FreeFaces).add fn_s_EulerOf).add fn_s_CountHoles).add fn_s_FacesOf
  refine fn_ok code_l_FnCollapses mixed env ?_
  intro args r h hb
  unfold F_l_FnCollapses at h
  split at h
  case h_2 => simp at h
  rename_i cells
  simp only [Option.ite_none_right_eq_some, Option.some.injEq] at h
  obtain ⟨⟨b, hbr, rfl⟩, rfl⟩ := h
  clear hb
  refine ⟨by simp, fun w0 U0 L0 N0 => ?_⟩
  have hBig : F_l_big [.list 1 (u8s b)] = some (.bool (decide (1048576 < b.length))) := by simp only [F_l_big, u8s_len]
  by_cases hlong : 1048576 < b.length
  · rw [decide_eq_true hlong] at hBig
    simp -implicitDefEqProofs [sc_l_FnCollapses, hBig]
  rw [decide_eq_false hlong] at hBig
  have hw : wfb b := ⟨hbr, by omega⟩
  have hD1 : F_s_DrawCollapseAt [.list 1 (u8s b)] = some (.tup [.agg [.int .i64 (bentN (newCur b)).1.1, .own 1 (ints (bentN (newCur b)).1.2)], .int .i64 (dcS (bentN (newCur b)).1.1 (bentN (newCur b)).1.2 (bentN (newCur b)).2)]) := by
    simp only [F_s_DrawCollapseAt, F1_mk, dBy_list hw, Option.bind_some]
  have hD2 : F_s_DrawCollapseAll [.list 1 (u8s b)] = some (.agg [.int .i64 (bentN (newCur b)).1.1, .own 1 (ints (bentN (newCur b)).1.2)]) := by
    simp only [F_s_DrawCollapseAll, F1_mk, dBy_list hw, Option.bind_some]
  have hD3 : F_s_DrawCanExpand [.list 1 (u8s b)] = some (.tup [.agg [.int .i64 (dceB b).1.1, .own 1 (ints (dceB b).1.2)], .int .i64 (dceB b).2.1, .int .i64 (dceB b).2.2]) := by
    simp only [F_s_DrawCanExpand, F1_mk, dBy_list hw, Option.bind_some]
  have hD4 : F_s_DrawIsCollapsed [.list 1 (u8s b)] = some (.agg [.int .i64 (dicX (bentN (newCur b)).1.1 (bentN (newCur b)).1.2 (bentN (newCur b)).2).1, .own 1 (ints (dicX (bentN (newCur b)).1.1 (bentN (newCur b)).1.2 (bentN (newCur b)).2).2)]) := by
    simp only [F_s_DrawIsCollapsed, F1_mk, dBy_list hw, Option.bind_some]
  generalize dicX (bentN (newCur b)).1.1 (bentN (newCur b)).1.2 (bentN (newCur b)).2 = fx at *
  generalize dceB b = ex at *
  generalize dcS (bentN (newCur b)).1.1 (bentN (newCur b)).1.2 (bentN (newCur b)).2 = s at *
  generalize (bentN (newCur b)).1 = c1 at *
  obtain ⟨n, l⟩ := c1
  obtain ⟨fn, fl⟩ := fx
  obtain ⟨⟨en, el⟩, ea, eb⟩ := ex
  simp only at hD1 hD2 hD3 hD4
  clear hw hbr
  have hCA : F_s_CollapseAt [.agg [.int .i64 n, .list 1 (ints l)], .int .i64 s] = some (.tup [.agg [.int .i64 (colN n l s), .own 1 (ints (colL n l s))], .bool (dec (colP n l s))]) := by
    simp only [F_s_CollapseAt, F2_mk, dC_agg, dI_int, Option.bind_some]
  have hCL : F_s_CollapseAll [.agg [.int .i64 n, .list 1 (ints l)]] = some (.tup [.agg [.int .i64 (caN n l), .own 1 (ints (caL n l))], .own 1 (ints (caT n l)), .bool (dec (cplx n l))]) := by
    simp only [F_s_CollapseAll, F1_mk, dC_agg, Option.bind_some]
  have hCX : ∀ n l s t, F_s_CanExpand [.agg [.int .i64 n, .list 1 (ints l)], .int .i64 s, .int .i64 t] = some (.bool (dec (canX n l s t))) := fun n l s t => by
    simp only [F_s_CanExpand, F3_mk, dC_agg, dI_int, Option.bind_some]
  have hIC : ∀ n l, F_s_IsCollapsed [.agg [.int .i64 n, .list 1 (ints l)]] = some (.bool (dec (collP n l))) := fun n l => by
    simp only [F_s_IsCollapsed, F1_mk, dC_agg, Option.bind_some]
  have hFF : F_s_FreeFaces [.agg [.int .i64 n, .list 1 (ints l)]] = some (.own 1 (ints (freeL n l))) := by
    simp only [F_s_FreeFaces, F1_mk, dC_agg, Option.bind_some]
  have hEu : ∀ n l, F_s_EulerOf [.agg [.int .i64 n, .list 1 (ints l)]] = some (.int .i64 (eulZ n l)) := fun n l => by
    simp only [F_s_EulerOf, F1_mk, dC_agg, Option.bind_some]
  have hCH : ∀ n l p, F_s_CountHoles [.agg [.int .i64 n, .list 1 (ints l)], .int .i64 p] = some (.int .i64 (choZ n l p)) := fun n l p => by
    simp only [F_s_CountHoles, F2_mk, dC_agg, dI_int, Option.bind_some]
  have hFa : ∀ n l, F_s_FacesOf [.agg [.int .i64 n, .list 1 (ints l)]] = some (.own 1 (ints (facesL n l))) := fun n l => by
    simp only [F_s_FacesOf, F1_mk, dC_agg, Option.bind_some]
  have hI : ∀ a b : List Int, F_l_sameInts [.list 1 (ints a), .list 1 (ints b)] = some (.bool (dec (a = b))) := fun a b => by
    simp only [F_l_sameInts, F2_mk, dL_list, Option.bind_some]
  have hSC : ∀ (n : Int) (l : List Int), F_l_sameComplex [.agg [.int .i64 n, .list 1 (ints l)], .agg [.int .i64 n, .list 1 (ints l)]] = some (.bool true) := fun n l => by
    simp only [F_l_sameComplex, F2_mk, dC_agg, Option.bind_some]
    rw [dec_true trivial]
  have hE : dec True = true := dec_iff.2 trivial
  have e1 := hCX en el ea eb
  have e2 := hIC fn fl
  have p1 : dec (cplx n l) = false ∨ (dec (cplx n l) = true ∧ F_s_IsCollapsed [.agg [.int .i64 (caN n l), .list 1 (ints (caL n l))]] = some (.bool true) ∧ F_s_EulerOf [.agg [.int .i64 (caN n l), .list 1 (ints (caL n l))]] = some (.int .i64 (eulZ n l)) ∧
      F_s_CountHoles [.agg [.int .i64 (caN n l), .list 1 (ints (caL n l))], .int .i64 2] = some (.int .i64 (choZ n l 2)) ∧ F_s_CountHoles [.agg [.int .i64 (caN n l), .list 1 (ints (caL n l))], .int .i64 3] = some (.int .i64 (choZ n l 3)) ∧
      IntKind.i64.wrap (((facesL n l).length : Int) - ((facesL (caN n l) (caL n l)).length : Int)) = IntKind.i64.wrap (2 * ((caT n l).length : Int))) := by
    by_cases h : cplx n l
    · obtain ⟨a1, a2, a3, a4, a5⟩ := caS_law 64 l [] h (setsOf_len _)
      refine .inr ⟨dec_true h, ?_, ?_, ?_, ?_, ?_⟩
      · rw [caN_yes h, caL_yes h, hIC, dec_true ⟨a1, a2⟩]
      · rw [caN_yes h, caL_yes h, hEu, a3]
      · rw [caN_yes h, caL_yes h, hCH, a4 2 (.inl rfl)]
      · rw [caN_yes h, caL_yes h, hCH, a4 3 (.inr (.inl rfl))]
      · rw [caN_yes h, caL_yes h, caT_yes h]
        simp only [List.length_nil] at a5
        rw [a5]
        congr 1
        try omega
    · exact .inl (dec_false h)
  have p2 : dec (colP n l s) = false ∨ (dec (colP n l s) = true ∧ (s = 0 ∨ (s ≠ 0 ∧ ∃ t, (∀ k, k < (facesL n l).length → (band (at0 (facesL n l) k) s = s ∧ at0 (facesL n l) k ≠ s ↔ at0 (facesL n l) k = t)) ∧ t ∈ facesL n l ∧
      F_s_CanExpand [.agg [.int .i64 (colN n l s), .list 1 (ints (colL n l s))], .int .i64 s, .int .i64 t] = some (.bool true) ∧ IntKind.i64.wrap (((facesL n l).length : Int) - 2) = ((facesL (colN n l s) (colL n l s)).length : Int)))) := by
    by_cases h : colP n l s
    · refine .inr ⟨dec_true h, ?_⟩
      by_cases h0 : s = 0
      · exact .inl h0
      · obtain ⟨hc, hs, hf, t, hfr⟩ := id h
        have hcol := col_step hc hs hf hfr
        obtain ⟨x1, x2⟩ := col_exp h hfr
        have hlen := col_len hc hcol
        have hbnd : (facesL n l).length ≤ 64 := setsOf_len _
        refine .inr ⟨h0, t, fun k hk => ?_, ?_, ?_, ?_⟩
        · have hm := getD_mem' (l := facesL n l) hk
          rw [facesL_of hc] at hm
          have e := mem_setsOf.1 hm
          rw [← facesL_of hc] at e
          constructor
          · rintro ⟨a, b⟩
            exact (hcol.only _ e.1 e.2 ((subS_iff' hs e.1).2 a)).resolve_left b
          · intro a
            rw [a]
            exact ⟨(subS_iff' hs hcol.ht).1 hcol.hst, fun e => sz_ne hcol.hz e.symm⟩
        · rw [facesL_of hc]
          exact mem_setsOf.2 ⟨hcol.ht, hcol.qt⟩
        · rw [hCX, x2, dec_true x1]
        · have e : colL n l s = delL l s := colL_yes h
          rw [x2, e, wrapI _ (by omega) (by omega)]
          omega
    · exact .inl (dec_false h)
  have f1 := hFa n l
  have f2 := hFa (caN n l) (caL n l)
  have f3 := hFa (colN n l s) (colL n l s)
  have u1 := hEu n l
  have c2 := hCH n l 2
  have c3 := hCH n l 3
  have hFl : (facesL n l).length ≤ 64 := setsOf_len _
  clear hCX hIC hEu hCH hFa
  generalize dec (cplx n l) = one at *
  generalize dec (colP n l s) = ok at *
  generalize dec (canX en el ea eb) = v1 at *
  generalize dec (collP fn fl) = v2 at *
  generalize freeL n l = FR at *
  generalize facesL (caN n l) (caL n l) = FY at *
  generalize facesL (colN n l s) (colL n l s) = FX at *
  generalize facesL n l = FD at *
  generalize caN n l = yn at *
  generalize caL n l = yl at *
  generalize caT n l = yt at *
  generalize colN n l s = xn at *
  generalize colL n l s = xl at *
  generalize eulZ n l = eu at *
  generalize choZ n l 2 = h2 at *
  generalize choZ n l 3 = h3 at *
  simp -implicitDefEqProofs [sc_l_FnCollapses, freeOk, hBig, hD1, hD2, hD3, hD4, hCA, hCL]
  refine CutI.of (l' := [(3, .pt 1 0), (4, .int .i64 s), (5, .pt 3 0), (6, .bool ok), (7, .pt 5 0), (8, .bool ok), (9, .pt 7 0), (10, .pt 10 0), (11, .sl 9 1 0 yt.length), (12, .bool one), (13, .pt 13 0), (14, .sl 12 1 0 yt.length), (15, .bool one), (16, .pt 15 0), (17, .int .i64 ea), (18, .int .i64 eb), (19, .pt 17 0)]) (SubI.slots rfl (by simp)) ?_
  clear hD1 hD2 hD3 hD4 hBig hCA hCL
  simp -implicitDefEqProofs [freeOk, hSC, hI, hE, e1, e2, hFF]
  refine CutI.of (l' := [(3, .pt 1 0), (4, .int .i64 s), (5, .pt 3 0), (6, .bool ok), (9, .pt 7 0), (10, .pt 10 0), (11, .sl 9 1 0 yt.length), (12, .bool one)]) (SubI.slots rfl (by simp)) ?_
  clear e1 e2 hFF
  rcases p1 with rfl | ⟨rfl, q1, q2, q3, q4, q5⟩
  case' inl => simp -implicitDefEqProofs [freeOk]
  case' inr => simp -implicitDefEqProofs [freeOk, q1, q2, q3, q4, q5, u1, c2, c3, f1, f2]
  all_goals
    refine CutI.of (l' := [(3, .pt 1 0), (4, .int .i64 s), (5, .pt 3 0), (6, .bool ok)]) (SubI.slots rfl (by simp)) ?_
    rcases p2 with rfl | ⟨rfl, rfl | ⟨h0, t, ht, htF, hx, hlen⟩⟩
    · simp -implicitDefEqProofs [freeOk]
    · simp -implicitDefEqProofs [freeOk]
    simp -implicitDefEqProofs [freeOk, h0, f1]
    refine loopI env mixed (fun k : Nat => [(4, .int .i64 s), (5, .pt 1 0), (20, .sl 2 1 0 FD.length), (21, .int .i64 (hiV FD t k)), (22, .int .i64 (k : Int))]) (fun _ => ([(2, ints FD), (1, [.int .i64 xn, .sl 0 1 0 xl.length]), (0, ints xl)], 3)) (fun k => k ≤ FD.length) (fun k => FD.length - k) 0 (by simp) (SubI.ren (fun m => if m = 0 then some 2 else if m = 1 then some 3 else if m = 2 then some 18 else none) ?_ ?_ ?_ (by simp) (by simp)) ?_
    · simp [renV, ren1, hiV_zero]
    · simp [renL, ren1]
    · intro n hn
      simp only at hn
      have h1 : n ≠ 0 := by omega
      have h2 : n ≠ 1 := by omega
      have h3 : n ≠ 2 := by omega
      simp [h1, h2, h3]
    intro k hk
    have hwk : IntKind.i64.wrap ((k : Int) + 1) = (k : Int) + 1 := wrapI _ (by omega) (by omega)
    by_cases hlt : k < FD.length
    · have hk2 := ht k hlt
      by_cases hit : at0 FD k = t
      · have e := hiV_hit hit
        obtain ⟨g1, g2⟩ := hk2.2 hit
        rw [hit] at g1 g2
        simp -implicitDefEqProofs [sc_l_FnCollapses_L0, freeOk, hlt, hit, g1, g2, hwk]
        repeat' (first | omega | apply And.intro)
        exact Again.of (k + 1) (by omega) (by omega) (SubI.slots rfl (by simp [e]))
      · have e := hiV_skip hit
        have g := fun h => hit (hk2.1 h)
        by_cases g1 : band (at0 FD k) s = s
        · have g2 : at0 FD k = s := Classical.byContradiction fun g2 => g ⟨g1, g2⟩
          rw [g2] at g1
          simp -implicitDefEqProofs [sc_l_FnCollapses_L0, freeOk, hlt, g1, g2, hwk]
          repeat' (first | omega | apply And.intro)
          exact Again.of (k + 1) (by omega) (by omega) (SubI.slots rfl (by simp [e]))
        · simp -implicitDefEqProofs [sc_l_FnCollapses_L0, freeOk, hlt, g1, hwk]
          repeat' (first | omega | apply And.intro)
          exact Again.of (k + 1) (by omega) (by omega) (SubI.slots rfl (by simp [e]))
    · have hkl : k = FD.length := by omega
      subst hkl
      have e := hiV_all htF
      simp -implicitDefEqProofs [sc_l_FnCollapses_L0, freeOk, e, hx, f3, hlen]
end Go.Proofs.Ytmemomfffehnkaa
