import Derived.Test.YtmemomfffehnkaaHuD
import Derived.Test.YtmemomfffehnkaaDrI
import Derived.Test.YtmemomfffehnkaaJbA
import Derived.Test.YtmemomfffehnkaaIbM
import Derived.Test.YtmemomfffehnkaaKF
namespace Go.Proofs.Ytmemomfffehnkaa
open Go Go.RowKit
set_option maxRecDepth 1000000
set_option linter.unusedSimpArgs false
set_option linter.unusedVariables false
set_option maxHeartbeats 1000000
def sc_l_FnShellings_L2 : SC := (.seq (.seq (.reg [⟨(some 133), none, (.mov (.t 15))⟩, ⟨(some 134), none, (.mov (.t 4))⟩, ⟨(some 135), none, (.len (.t 134))⟩, ⟨(some 136), none, (.bin false .lss (.t 133) (.t 135))⟩]) (.cond (.t 136) .skip (.exit 2))) (.seq (.block 3 (.seq (.dreg [⟨⟨(some 139), none, (.mov (.t 12))⟩, false, false⟩, ⟨⟨(some 140), none, (.mov (.t 13))⟩, false, false⟩, ⟨⟨(some 141), none, (.idx 1 (.t 139) (.t 140))⟩, false, false⟩, ⟨⟨(some 142), none, (.ld none (.int .i64 0) (.t 141))⟩, false, false⟩, ⟨⟨(some 143), none, (.mov (.t 10))⟩, false, false⟩, ⟨⟨(some 144), none, (.mov (.t 15))⟩, false, false⟩, ⟨⟨(some 145), none, (.idx 1 (.t 143) (.t 144))⟩, false, false⟩, ⟨⟨(some 146), none, (.ld none (.int .i64 0) (.t 145))⟩, false, false⟩, ⟨⟨(some 147), none, (.bin false .and (.t 142) (.t 146))⟩, false, false⟩, ⟨⟨(some 148), none, (.mov (.t 10))⟩, false, false⟩, ⟨⟨(some 149), none, (.mov (.t 15))⟩, false, false⟩, ⟨⟨(some 150), none, (.idx 1 (.t 148) (.t 149))⟩, false, false⟩, ⟨⟨(some 151), none, (.ld none (.int .i64 0) (.t 150))⟩, false, false⟩, ⟨⟨(some 152), none, (.bin false .eql (.t 147) (.t 151))⟩, false, false⟩, ⟨⟨(some 153), none, (.mov (.t 152))⟩, false, false⟩, ⟨⟨(some 154), (some (153, true)), (.mov (.t 4))⟩, false, false⟩, ⟨⟨(some 155), (some (153, true)), (.mov (.t 15))⟩, false, false⟩, ⟨⟨(some 156), (some (153, true)), (.idx 1 (.t 154) (.t 155))⟩, false, false⟩, ⟨⟨(some 157), (some (153, true)), (.ld none (.int .i64 0) (.t 156))⟩, false, false⟩, ⟨⟨(some 158), (some (153, true)), (.mov (.t 12))⟩, false, false⟩, ⟨⟨(some 159), (some (153, true)), (.mov (.t 13))⟩, false, false⟩, ⟨⟨(some 160), (some (153, true)), (.idx 1 (.t 158) (.t 159))⟩, false, false⟩, ⟨⟨(some 161), (some (153, true)), (.ld none (.int .i64 0) (.t 160))⟩, false, false⟩, ⟨⟨(some 162), (some (153, true)), (.bin false .and (.t 157) (.t 161))⟩, false, false⟩, ⟨⟨(some 163), (some (153, true)), (.mov (.t 12))⟩, false, false⟩, ⟨⟨(some 164), (some (153, true)), (.mov (.t 13))⟩, false, false⟩, ⟨⟨(some 165), (some (153, true)), (.idx 1 (.t 163) (.t 164))⟩, false, false⟩, ⟨⟨(some 166), (some (153, true)), (.ld none (.int .i64 0) (.t 165))⟩, false, false⟩, ⟨⟨(some 167), (some (153, true)), (.bin false .eql (.t 162) (.t 166))⟩, false, false⟩, ⟨⟨(some 168), none, (.pick (.t 153) (.t 167) (.c (.bool false)))⟩, false, false⟩]) (.cond (.t 168) (.reg [⟨(some 169), none, (.mov (.t 14))⟩, ⟨(some 170), none, (.bin false .add (.t 169) (.c (.int .i64 1)))⟩, ⟨(some 14), none, (.mov (.t 170))⟩]) .skip))) (.reg [⟨(some 137), none, (.mov (.t 15))⟩, ⟨(some 138), none, (.bin false .add (.t 137) (.c (.int .i64 1)))⟩, ⟨(some 15), none, (.mov (.t 138))⟩])))
def sc_l_FnShellings_L0 : SC := (.seq (.seq (.reg [⟨(some 127), none, (.mov (.t 13))⟩, ⟨(some 128), none, (.mov (.t 12))⟩, ⟨(some 129), none, (.len (.t 128))⟩, ⟨(some 130), none, (.bin false .lss (.t 127) (.t 129))⟩]) (.cond (.t 130) .skip (.exit 0))) (.seq (.block 1 (.seq (.reg [⟨(some 14), none, (.mov (.c (.int .i64 0)))⟩]) (.seq (.seq (.reg [⟨(some 15), none, (.mov (.c (.int .i64 0)))⟩]) (.block 2 (.loop sc_l_FnShellings_L2))) (.seq (.reg [⟨(some 171), none, (.mov (.t 14))⟩, ⟨(some 172), none, (.bin false .neq (.t 171) (.c (.int .i64 1)))⟩]) (.cond (.t 172) (.seq (.reg [⟨(some 2), none, (.mov (.c (.bool false)))⟩]) .ret) .skip))))) (.reg [⟨(some 131), none, (.mov (.t 13))⟩, ⟨(some 132), none, (.bin false .add (.t 131) (.c (.int .i64 1)))⟩, ⟨(some 13), none, (.mov (.t 132))⟩])))
def sc_l_FnShellings : SC := (.seq (.reg [⟨(some 2), none, (.mov (.c (.bool false)))⟩]) (.seq (.seq (.reg [⟨(some 16), none, (.mov (.t 0))⟩, ⟨(some 17), none, (.call 10 [(.t 16)])⟩]) (.cond (.t 17) (.seq (.reg [⟨(some 2), none, (.mov (.c (.bool true)))⟩]) .ret) .skip)) (.seq (.reg [⟨(some 19), none, (.mov (.t 0))⟩, ⟨(some 20), none, (.call 28 [(.t 19)])⟩, ⟨(some 18), none, (.mov (.t 20))⟩, ⟨(some 21), none, (.ext 0 (.t 18))⟩, ⟨(some 22), none, (.ext 1 (.t 18))⟩, ⟨(some 3), none, (.new [(.int .i64 0), .nil])⟩, ⟨none, none, (.st 2 (.t 3) (.t 21))⟩, ⟨(some 4), none, (.mov (.t 22))⟩]) (.seq (.reg [⟨(some 23), none, (.mov (.t 0))⟩, ⟨(some 24), none, (.call 29 [(.t 23)])⟩, ⟨(some 5), none, (.new [(.int .i64 0), .nil])⟩, ⟨none, none, (.st 2 (.t 5) (.t 24))⟩]) (.seq (.reg [⟨(some 26), none, (.ld (some 2) .undef (.t 5))⟩, ⟨(some 27), none, (.call 30 [(.t 26)])⟩, ⟨(some 25), none, (.mov (.t 27))⟩, ⟨(some 28), none, (.ext 0 (.t 25))⟩, ⟨(some 29), none, (.ext 1 (.t 25))⟩, ⟨(some 6), none, (.mov (.t 28))⟩, ⟨(some 7), none, (.mov (.t 29))⟩]) (.seq (.reg [⟨(some 31), none, (.ld (some 2) .undef (.t 5))⟩, ⟨(some 32), none, (.call 31 [(.t 31)])⟩, ⟨(some 30), none, (.mov (.t 32))⟩, ⟨(some 33), none, (.ext 0 (.t 30))⟩, ⟨(some 34), none, (.ext 1 (.t 30))⟩, ⟨(some 8), none, (.mov (.t 33))⟩, ⟨(some 9), none, (.mov (.t 34))⟩]) (.seq (.reg [⟨(some 35), none, (.ld (some 2) .undef (.t 3))⟩, ⟨(some 36), none, (.mov (.t 4))⟩, ⟨(some 37), none, (.call 32 [(.t 35), (.t 36)])⟩, ⟨(some 10), none, (.mov (.t 37))⟩]) (.cut (.reg [⟨(some 38), none, (.ld (some 2) .undef (.t 3))⟩, ⟨(some 39), none, (.mov (.t 4))⟩, ⟨(some 40), none, (.call 33 [(.t 38), (.t 39)])⟩, ⟨(some 11), none, (.mov (.t 40))⟩]) (.seq (.seq (.dreg [⟨⟨(some 41), none, (.ld (some 2) .undef (.t 3))⟩, false, false⟩, ⟨⟨(some 42), none, (.mov (.t 4))⟩, false, false⟩, ⟨⟨(some 43), none, (.call 34 [(.t 41), (.t 42)])⟩, false, false⟩, ⟨⟨(some 44), none, (.ld (some 2) .undef (.t 3))⟩, false, false⟩, ⟨⟨(some 45), none, (.mov (.t 4))⟩, false, false⟩, ⟨⟨(some 46), none, (.call 35 [(.t 44), (.t 45)])⟩, false, false⟩, ⟨⟨(some 47), none, (.bin true .neq (.t 43) (.t 46))⟩, false, false⟩, ⟨⟨(some 48), none, (.mov (.t 47))⟩, false, false⟩, ⟨⟨(some 49), (some (48, false)), (.ld (some 2) .undef (.t 3))⟩, false, false⟩, ⟨⟨(some 50), (some (48, false)), (.mov (.t 4))⟩, false, false⟩, ⟨⟨(some 51), (some (48, false)), (.call 36 [(.t 49), (.t 50)])⟩, false, false⟩, ⟨⟨(some 52), (some (48, false)), (.ld (some 2) .undef (.t 3))⟩, false, false⟩, ⟨⟨(some 53), (some (48, false)), (.mov (.t 4))⟩, false, false⟩, ⟨⟨(some 54), (some (48, false)), (.call 37 [(.t 52), (.t 53)])⟩, false, false⟩, ⟨⟨(some 55), (some (48, false)), (.bin true .neq (.t 51) (.t 54))⟩, false, false⟩, ⟨⟨(some 56), none, (.pick (.t 48) (.c (.bool true)) (.t 55))⟩, false, false⟩, ⟨⟨(some 57), none, (.mov (.t 56))⟩, false, false⟩, ⟨⟨(some 58), (some (57, false)), (.mov (.t 7))⟩, false, false⟩, ⟨⟨(some 59), (some (57, false)), (.mov (.t 9))⟩, false, false⟩, ⟨⟨(some 60), (some (57, false)), (.bin true .neq (.t 58) (.t 59))⟩, false, false⟩, ⟨⟨(some 61), none, (.pick (.t 57) (.c (.bool true)) (.t 60))⟩, false, false⟩, ⟨⟨(some 62), none, (.mov (.t 61))⟩, false, false⟩, ⟨⟨(some 63), (some (62, false)), (.mov (.t 6))⟩, false, false⟩, ⟨⟨(some 64), (some (62, false)), (.mov (.t 8))⟩, false, false⟩, ⟨⟨(some 65), (some (62, false)), (.call 19 [(.t 63), (.t 64)])⟩, false, false⟩, ⟨⟨(some 66), (some (62, false)), (.un .not (.t 65))⟩, false, false⟩, ⟨⟨(some 67), none, (.pick (.t 62) (.c (.bool true)) (.t 66))⟩, false, false⟩, ⟨⟨(some 68), none, (.mov (.t 67))⟩, false, false⟩, ⟨⟨(some 69), (some (68, false)), (.mov (.t 10))⟩, false, true⟩, ⟨⟨(some 70), (some (68, false)), (.ld (some 2) .undef (.t 3))⟩, false, false⟩, ⟨⟨(some 71), (some (68, false)), (.mov (.t 4))⟩, false, false⟩, ⟨⟨(some 72), (some (68, false)), (.call 38 [(.t 70), (.t 71)])⟩, true, false⟩, ⟨⟨(some 73), (some (68, false)), (.call 19 [(.t 69), (.t 72)])⟩, false, false⟩, ⟨⟨(some 74), (some (68, false)), (.un .not (.t 73))⟩, false, false⟩, ⟨⟨(some 75), none, (.pick (.t 68) (.c (.bool true)) (.t 74))⟩, false, false⟩, ⟨⟨(some 76), none, (.mov (.t 75))⟩, false, false⟩, ⟨⟨(some 77), (some (76, false)), (.mov (.t 11))⟩, false, true⟩, ⟨⟨(some 78), (some (76, false)), (.ld (some 2) .undef (.t 3))⟩, false, false⟩, ⟨⟨(some 79), (some (76, false)), (.mov (.t 4))⟩, false, false⟩, ⟨⟨(some 80), (some (76, false)), (.call 39 [(.t 78), (.t 79)])⟩, true, false⟩, ⟨⟨(some 81), (some (76, false)), (.call 19 [(.t 77), (.t 80)])⟩, false, false⟩, ⟨⟨(some 82), (some (76, false)), (.un .not (.t 81))⟩, false, false⟩, ⟨⟨(some 83), none, (.pick (.t 76) (.c (.bool true)) (.t 82))⟩, false, false⟩, ⟨⟨(some 84), none, (.mov (.t 83))⟩, false, false⟩, ⟨⟨(some 85), (some (84, false)), (.ld (some 2) .undef (.t 5))⟩, false, false⟩, ⟨⟨(some 86), (some (84, false)), (.call 40 [(.t 85)])⟩, false, false⟩, ⟨⟨(some 87), (some (84, false)), (.mov (.t 7))⟩, false, false⟩, ⟨⟨(some 88), (some (84, false)), (.bin true .neq (.t 86) (.t 87))⟩, false, false⟩, ⟨⟨(some 89), none, (.pick (.t 84) (.c (.bool true)) (.t 88))⟩, false, false⟩]) (.cond (.t 89) (.seq (.reg [⟨(some 2), none, (.mov (.c (.bool false)))⟩]) .ret) .skip)) (.seq (.seq (.reg [⟨(some 90), none, (.mov (.t 7))⟩, ⟨(some 91), none, (.mov (.t 90))⟩, ⟨(some 92), (some (91, true)), (.ld (some 2) .undef (.t 5))⟩, ⟨(some 93), (some (91, true)), (.mov (.t 6))⟩, ⟨(some 94), (some (91, true)), (.call 36 [(.t 92), (.t 93)])⟩, ⟨(some 95), (some (91, true)), (.un .not (.t 94))⟩, ⟨(some 96), none, (.pick (.t 91) (.t 95) (.c (.bool false)))⟩]) (.cond (.t 96) (.seq (.reg [⟨(some 2), none, (.mov (.c (.bool false)))⟩]) .ret) .skip)) (.seq (.seq (.reg [⟨(some 97), none, (.ld (some 2) .undef (.t 3))⟩, ⟨(some 98), none, (.mov (.t 4))⟩, ⟨(some 99), none, (.call 36 [(.t 97), (.t 98)])⟩, ⟨(some 100), none, (.un .not (.t 99))⟩]) (.cond (.t 100) (.seq (.reg [⟨(some 101), none, (.mov (.t 10))⟩, ⟨(some 102), none, (.len (.t 101))⟩, ⟨(some 103), none, (.bin false .eql (.t 102) (.c (.int .i64 0)))⟩, ⟨(some 2), none, (.mov (.t 103))⟩]) .ret) .skip)) (.seq (.seq (.reg [⟨(some 104), none, (.mov (.t 10))⟩, ⟨(some 105), none, (.len (.t 104))⟩, ⟨(some 106), none, (.mov (.t 4))⟩, ⟨(some 107), none, (.len (.t 106))⟩, ⟨(some 108), none, (.bin false .neq (.t 105) (.t 107))⟩, ⟨(some 109), none, (.mov (.t 108))⟩, ⟨(some 110), (some (109, false)), (.ld (some 2) .undef (.t 3))⟩, ⟨(some 111), (some (109, false)), (.call 41 [(.t 110)])⟩, ⟨(some 112), (some (109, false)), (.mov (.t 111))⟩, ⟨(some 113), (some (112, true)), (.mov (.t 4))⟩, ⟨(some 114), (some (112, true)), (.len (.t 113))⟩, ⟨(some 115), (some (112, true)), (.bin false .gtr (.t 114) (.c (.int .i64 0)))⟩, ⟨(some 116), (some (109, false)), (.pick (.t 112) (.t 115) (.c (.bool false)))⟩, ⟨(some 117), (some (109, false)), (.mov (.t 116))⟩, ⟨(some 118), (some (117, true)), (.mov (.t 11))⟩, ⟨(some 119), (some (117, true)), (.ld (some 2) .undef (.t 3))⟩, ⟨(some 120), (some (117, true)), (.call 42 [(.t 119)])⟩, ⟨(some 121), (some (117, true)), (.call 19 [(.t 118), (.t 120)])⟩, ⟨(some 122), (some (117, true)), (.un .not (.t 121))⟩, ⟨(some 123), (some (109, false)), (.pick (.t 117) (.t 122) (.c (.bool false)))⟩, ⟨(some 124), none, (.pick (.t 109) (.c (.bool true)) (.t 123))⟩]) (.cond (.t 124) (.seq (.reg [⟨(some 2), none, (.mov (.c (.bool false)))⟩]) .ret) .skip)) (.seq (.reg [⟨(some 125), none, (.ld (some 2) .undef (.t 3))⟩, ⟨(some 126), none, (.call 43 [(.t 125)])⟩, ⟨(some 12), none, (.mov (.t 126))⟩]) (.seq (.seq (.reg [⟨(some 13), none, (.mov (.c (.int .i64 0)))⟩]) (.block 0 (.loop sc_l_FnShellings_L0))) (.seq (.reg [⟨(some 2), none, (.mov (.c (.bool true)))⟩]) .ret)))))))))))))))
theorem code_l_FnShellings : fnCode Try.prog [38, 39, 42, 666666] 4 = some (173, sc_l_FnShellings, [(2, none)]) := by kernel_rfl
open Classical in
noncomputable def F_l_FnShellings : List V → Option V
  | [.list 1 cells] => if ∃ b, (∀ x ∈ b, 0 ≤ x ∧ x < 256) ∧ cells = u8s b then some (.bool true) else none
  | _ => none
theorem numR_R {n : Int} {l : List Int} (h : numR n l) : allR l := fun x hx => by have := h.2.2 x hx; unfold inR; omega
set_option maxHeartbeats 20000000
theorem fn_l_FnShellings : FnOk Try.prog 4 F_l_FnShellings := by
  have env := (((((((((((((((((((envNil_ok (P := Try.prog)).add fn_l_big).add fn_l_sameInts).add fn_s_DrawIsShelling).add fn_s_DrawFindShelling).add fn_s_FindShelling).add fn_i_FindShelling).add fn_s_NewFaces).add fn_i_NewFaces).add fn_s_ShellingCounts).add fn_i_ShellingCounts).add fn_s_IsOrder).add fn_i_IsOrder).add fn_s_IsShelling).add fn_i_IsShelling).add fn_i_IsShellable).add fn_s_IsPure).add fn_s_HNumbers).add fn_s_FacesOf)
  refine fn_ok code_l_FnShellings mixed env ?_
  intro args r h hb
  unfold F_l_FnShellings at h
  split at h
  case h_2 => simp at h
  rename_i cells
  simp only [Option.ite_none_right_eq_some, Option.some.injEq] at h
  obtain ⟨⟨b, hbr, rfl⟩, rfl⟩ := h
  clear hb
  refine ⟨by simp, fun w0 U0 L0 N0 => ?_⟩
  have hBig : F_l_big [.list 1 (u8s b)] = some (.bool (decide (1048576 < b.length))) := by simp only [F_l_big, u8s_len]
  by_cases hlong : 1048576 < b.length
  · rw [decide_eq_true hlong] at hBig
    simp -implicitDefEqProofs [sc_l_FnShellings, hBig]
  rw [decide_eq_false hlong] at hBig
  have hw : wfb b := ⟨hbr, by omega⟩
  have v0 := newCur_wf hw
  have hD2 : F_s_DrawIsShelling [.list 1 (u8s b)] = some (.tup [.agg [.int .i64 (bentN (newCur b)).1.1, .own 1 (ints (bentN (newCur b)).1.2)], .own 1 (ints (caseL (bentN (newCur b)).1.1 (bentN (newCur b)).1.2 (bentN (newCur b)).2))]) := by
    simp only [F_s_DrawIsShelling, F_s_l19Case, F1_mk, dBy_list hw, Option.bind_some]
  have hD3 : F_s_DrawFindShelling [.list 1 (u8s b)] = some (.agg [.int .i64 (bentN (newCur b)).1.1, .own 1 (ints (bentN (newCur b)).1.2)]) := by
    simp only [F_s_DrawFindShelling, F1_mk, dBy_list hw, Option.bind_some]
  have hn2 := bentN_num (newCur b)
  have hl2 := caseL_num (bentN_wf v0) hn2
  generalize caseL (bentN (newCur b)).1.1 (bentN (newCur b)).1.2 (bentN (newCur b)).2 = list at *
  generalize (bentN (newCur b)).1 = c2 at *
  obtain ⟨n, l⟩ := c2
  simp only at hD2 hD3 hn2
  clear v0 hw hbr
  have hR1 := numR_R hn2
  have hA2 : F_s_FindShelling [.agg [.int .i64 n, .list 1 (ints l)]] = some (.tup [.own 1 (ints (fshL n l)), .bool (dec (fshP n l))]) := by
    simp only [F_s_FindShelling, F1_mk, dC_agg, Option.bind_some]
  have hA3 : F_s_ShellingCounts [.agg [.int .i64 n, .list 1 (ints l)], .list 1 (ints list)] = some (.own 1 (ints (shcL n l list))) := by
    simp only [F_s_ShellingCounts, F2_mk, dC_agg, dL_list, Option.bind_some]
  have hA4 : F_s_NewFaces [.agg [.int .i64 n, .list 1 (ints l)], .list 1 (ints list)] = some (.own 1 (ints (newfL n l list))) := by
    simp only [F_s_NewFaces, F2_mk, dC_agg, dL_list, Option.bind_some]
  have hA5 : F_s_IsPure [.agg [.int .i64 n, .list 1 (ints l)]] = some (.bool (pureB n l)) := by
    simp only [F_s_IsPure, F1_mk, dC_agg, Option.bind_some]
    rw [if_pos hR1]
  have hA6 : F_s_HNumbers [.agg [.int .i64 n, .list 1 (ints l)]] = some (.own 1 (ints (hnL n l))) := by
    simp only [F_s_HNumbers, F1_mk, dC_agg, Option.bind_some]
  have hA7 : F_s_IsShellable [.agg [.int .i64 n, .list 1 (ints l)]] = some (.bool (dec (fshP n l))) := by
    simp only [F_s_IsShellable, F1_mk, dC_agg, Option.bind_some]
  have hA8 : F_s_IsOrder [.agg [.int .i64 n, .list 1 (ints l)], .list 1 (ints list)] = some (.bool (orderB n l list)) := by
    simp only [F_s_IsOrder, F2_mk, dC_agg, dL_list, Option.bind_some]
  have hA9 : ∀ ll, F_s_IsShelling [.agg [.int .i64 n, .list 1 (ints l)], .list 1 (ints ll)] = some (.bool (shellB n l ll)) := fun ll => by
    simp only [F_s_IsShelling, F2_mk, dC_agg, dL_list, Option.bind_some]
  have hB1 := hA9 list
  have hB2 := hA9 (fshL n l)
  clear hA9
  have hB3 : F_s_FacesOf [.agg [.int .i64 n, .list 1 (ints l)]] = some (.own 1 (ints (facesL n l))) := by
    simp only [F_s_FacesOf, F1_mk, dC_agg, Option.bind_some]
  have hE : dec True = true := dec_iff.2 trivial
  have hY2 : dec (fshP n l) = true → shellB n l (fshL n l) = true := fun h => fsh_ok (dec_iff.1 h)
  have hN0 : shellB n l list = false → newfL n l list = [] := fun h => if_neg (by rw [h]; simp)
  have hN1 : shellB n l list = true → newfL n l list = newfP list list.length := fun h => if_pos h
  have hN2 : shellB n l list = true → 0 < list.length → pureB n l = true → hnL n l = shcL n l list := shell_h
  have hFl : (facesL n l).length ≤ 64 := setsOf_len _
  have hFS : allS (facesL n l) := allS_setsOf _
  have hLS : shellB n l list = true → allS list := fun h => (order_parts (shell_order h)).2.2.2
  have hFr : shellB n l list = true → ∀ k, k < list.length → isS (at0 (newfP list list.length) k) := fun h k hk => (sh_lows h k (by rw [newfP_len2]; exact hk)).1
  have hOn : shellB n l list = true → ∀ k, k < (facesL n l).length → cntIv list (newfP list list.length) (at0 (facesL n l) k) list.length = 1 := fun h k hk => by
    obtain ⟨hu, hc, hf⟩ := mem_setsOf.1 (getD_mem' (l := facesL n l) hk)
    exact sh_once h hu hf
  have hok : (dec (fshP n l) = true ∧ shellB n l (fshL n l) = true) ∨ dec (fshP n l) = false := by
    cases hd : dec (fshP n l) with
    | true => exact .inl ⟨rfl, hY2 hd⟩
    | false => exact .inr rfl
  clear hY2
  generalize hsh2 : shellB n l (fshL n l) = sh2 at *
  generalize fshL n l = S at *
  generalize dec (fshP n l) = ok at *
  generalize shcL n l list = C at *
  generalize orderB n l list = od at *
  have hfl2 : (newfP list list.length).length = list.length := newfP_len2 _ _
  generalize newfP list list.length = fr at *
  generalize hnfl : newfL n l list = nf at *
  generalize facesL n l = faces at *
  generalize hnL n l = hn at *
  have hll : list.length ≤ 65 := hl2.1
  have inner : ∀ (k : Nat) (Q : Post) (L : Tm), shellB n l list = true → k < faces.length → subE L [(4, .sl 0 1 0 list.length), (10, .sl 1 1 0 list.length), (12, .sl 2 1 0 faces.length), (13, .int .i64 (k : Int)), (14, .int .i64 0), (15, .int .i64 0)] →
      Q (.exit 2) [(4, .sl 0 1 0 list.length), (10, .sl 1 1 0 list.length), (12, .sl 2 1 0 faces.length), (13, .int .i64 (k : Int)), (14, .int .i64 (cntIv list fr (at0 faces k) list.length))] ([(2, ints faces), (1, ints fr), (0, ints list)], 3) →
      LoopI ⟨Try.prog, w0, U0, L0, N0, 0, 173⟩ [38, 39, 42, 666666] sc_l_FnShellings_L2 Q L ([(2, ints faces), (1, ints fr), (0, ints list)], 3) := by
    intro k Q L hsh hk hs q1
    have s1 := allS_at hFS hk
    refine loopQ env mixed (fun i : Nat => [(4, .sl 0 1 0 list.length), (10, .sl 1 1 0 list.length), (12, .sl 2 1 0 faces.length), (13, .int .i64 (k : Int)), (14, .int .i64 (cntIv list fr (at0 faces k) i)), (15, .int .i64 (i : Int))]) (fun _ => ([(2, ints faces), (1, ints fr), (0, ints list)], 3)) (fun i => i ≤ list.length) (fun i => list.length - i) 0 (by simp) (SubI.slots rfl (by simpa [cntIv] using hs)) ?_
    intro i hi
    by_cases hlt : i < list.length
    · have s2 := allS_at (hLS hsh) hlt
      have s3 := hFr hsh i hlt
      have hfl3 : i < fr.length := by omega
      have cb := cntIv_bnd list fr (at0 faces k) i
      have hwi : IntKind.i64.wrap ((i : Int) + 1) = (i : Int) + 1 := wrapI _ (by omega) (by omega)
      by_cases g1 : band (at0 faces k) (at0 fr i) = at0 fr i
      · by_cases g2 : band (at0 list i) (at0 faces k) = at0 faces k
        · have e := cntIv_pos (facets := list) (lows := fr) (u := at0 faces k) (k := i) ⟨(subS_iff' s3 s1).2 g1, (subS_iff' s1 s2).2 g2⟩
          have hw : IntKind.i64.wrap (cntIv list fr (at0 faces k) i + 1) = cntIv list fr (at0 faces k) i + 1 := wrapI _ (by omega) (by omega)
          simp -implicitDefEqProofs [sc_l_FnShellings_L2, freeOk, hlt, hk, hfl3, hfl2, g1, g2, hw, hwi]
          repeat' (first | omega | apply And.intro)
          exact Again.of (i + 1) (by omega) (by omega) (SubI.slots rfl (by simp [e]))
        · have e := cntIv_neg (facets := list) (lows := fr) (u := at0 faces k) (k := i) fun h => g2 ((subS_iff' s1 s2).1 h.2)
          simp -implicitDefEqProofs [sc_l_FnShellings_L2, freeOk, hlt, hk, hfl3, hfl2, g1, g2, hwi]
          repeat' (first | omega | apply And.intro)
          exact Again.of (i + 1) (by omega) (by omega) (SubI.slots rfl (by simp [e]))
      · have e := cntIv_neg (facets := list) (lows := fr) (u := at0 faces k) (k := i) fun h => g1 ((subS_iff' s3 s1).1 h.1)
        simp -implicitDefEqProofs [sc_l_FnShellings_L2, freeOk, hlt, hk, hfl3, hfl2, g1, hwi]
        repeat' (first | omega | apply And.intro)
        exact Again.of (i + 1) (by omega) (by omega) (SubI.slots rfl (by simp [e]))
    · have : i = list.length := by omega
      subst this
      simp -implicitDefEqProofs [sc_l_FnShellings_L2]
      exact SubQ.of (SubI.slots rfl (by simp)) q1
  have loop : ∀ (Q : Post) (L : Tm) (s : Hp), shellB n l list = true → SubI 0 L s [(4, .sl 0 1 0 list.length), (10, .sl 1 1 0 list.length), (12, .sl 2 1 0 faces.length), (13, .int .i64 0)] ([(2, ints faces), (1, ints fr), (0, ints list)], 3) →
      (∀ L' s', Q (.exit 0) L' s') → LoopI ⟨Try.prog, w0, U0, L0, N0, 0, 173⟩ [38, 39, 42, 666666] sc_l_FnShellings_L0 Q L s := by
    intro Q L s hsh hs q1
    refine loopQ env mixed (fun k : Nat => [(4, .sl 0 1 0 list.length), (10, .sl 1 1 0 list.length), (12, .sl 2 1 0 faces.length), (13, .int .i64 (k : Int))]) (fun _ => ([(2, ints faces), (1, ints fr), (0, ints list)], 3)) (fun k => k ≤ faces.length) (fun k => faces.length - k) 0 (by simp) (by simpa using hs) ?_
    intro k hk
    have hwk : IntKind.i64.wrap ((k : Int) + 1) = (k : Int) + 1 := wrapI _ (by omega) (by omega)
    by_cases hlt : k < faces.length
    · have hone := hOn hsh k hlt
      simp -implicitDefEqProofs [sc_l_FnShellings_L0, freeOk, hlt]
      refine inner k _ _ hsh hlt (by simp) ?_
      simp -implicitDefEqProofs [freeOk, hone, hwk]
      exact Again.of (k + 1) (by omega) (by omega) (SubI.slots rfl (by simp))
    · simp -implicitDefEqProofs [sc_l_FnShellings_L0, freeOk, hlt]
      exact SubQ.of (l1 := []) (SubI.slots rfl (by simp)) (q1 _ _)
  clear inner hOn hFr hLS hFS
  simp -implicitDefEqProofs [sc_l_FnShellings, freeOk, hBig, hD2, hD3, hA2, hA3, hA4]
  refine CutI.of (l' := [(3, .pt 2 0), (4, .sl 1 1 0 list.length), (5, .pt 4 0), (6, .sl 5 1 0 S.length), (7, .bool ok), (8, .sl 6 1 0 S.length), (9, .bool ok), (10, .sl 7 1 0 nf.length), (11, .sl 8 1 0 C.length)]) (SubI.slots rfl (by simp)) ?_
  clear hD2 hD3 hA2 hBig
  rcases hok with ⟨rfl, rfl⟩ | rfl
  all_goals cases hs2 : shellB n l list
  all_goals rw [hs2] at hB1
  case' inl.false => have e := hN0 hs2
  case' inr.false => have e := hN0 hs2
  case inl.false | inr.false =>
    subst e
    simp -implicitDefEqProofs [freeOk, hA3, hA4, hA5, hA6, hA7, hA8, hB1, hB2, hB3, F_l_sameInts, hE]
  all_goals
    have e := hN1 hs2
    subst e
    cases hp : pureB n l
    all_goals rw [hp] at hA5
    case false =>
      simp -implicitDefEqProofs [freeOk, hA3, hA4, hA5, hA6, hA7, hA8, hB1, hB2, hB3, F_l_sameInts, hE, hfl2]
      refine loop _ _ _ hs2 (SubI.ren (fun m => if m = 0 then some 1 else if m = 1 then some 7 else if m = 2 then some 11 else none) ?_ ?_ ?_ (by simp) (by simp)) ?_
      · simp [renV, ren1, hfl2]
      · simp [renL, ren1]
      · intro n hn
        simp only at hn
        have h1 : n ≠ 0 := by omega
        have h2 : n ≠ 1 := by omega
        have h3 : n ≠ 2 := by omega
        simp [h1, h2, h3]
      · intro L' s'
        simp -implicitDefEqProofs []
    by_cases hlen : 0 < list.length
    · have e2 := hN2 hs2 hlen hp
      subst e2
      have hli : (0 : Int) < (list.length : Int) := by omega
      simp -implicitDefEqProofs [freeOk, hA3, hA4, hA5, hA6, hA7, hA8, hB1, hB2, hB3, F_l_sameInts, hE, hfl2, hlen, hli]
      refine loop _ _ _ hs2 (SubI.ren (fun m => if m = 0 then some 1 else if m = 1 then some 7 else if m = 2 then some 12 else none) ?_ ?_ ?_ (by simp) (by simp)) ?_
      · simp [renV, ren1, hfl2]
      · simp [renL, ren1]
      · intro n hn
        simp only at hn
        have h1 : n ≠ 0 := by omega
        have h2 : n ≠ 1 := by omega
        have h3 : n ≠ 2 := by omega
        simp [h1, h2, h3]
      · intro L' s'
        simp -implicitDefEqProofs []
    · have hli : ¬ (0 : Int) < (list.length : Int) := by omega
      simp -implicitDefEqProofs [freeOk, hA3, hA4, hA5, hA6, hA7, hA8, hB1, hB2, hB3, F_l_sameInts, hE, hfl2, hlen, hli]
      refine loop _ _ _ hs2 (SubI.ren (fun m => if m = 0 then some 1 else if m = 1 then some 7 else if m = 2 then some 11 else none) ?_ ?_ ?_ (by simp) (by simp)) ?_
      · simp [renV, ren1, hfl2]
      · simp [renL, ren1]
      · intro n hn
        simp only at hn
        have h1 : n ≠ 0 := by omega
        have h2 : n ≠ 1 := by omega
        have h3 : n ≠ 2 := by omega
        simp [h1, h2, h3]
      · intro L' s'
        simp -implicitDefEqProofs []
end Go.Proofs.Ytmemomfffehnkaa
