import Derived.Test.YtmemomfffehnkaaHuC
import Derived.Test.YtmemomfffehnkaaDrI
import Derived.Test.YtmemomfffehnkaaJbA
import Derived.Test.YtmemomfffehnkaaIaF
import Derived.Test.YtmemomfffehnkaaIbP
namespace Go.Proofs.Ytmemomfffehnkaa
open Go Go.RowKit
set_option maxRecDepth 1000000
set_option linter.unusedSimpArgs false
set_option linter.unusedVariables false
set_option maxHeartbeats 1000000
def sc_l_FnDivisions : SC := (.seq (.reg [⟨(some 2), none, (.mov (.c (.bool false)))⟩]) (.seq (.seq (.reg [⟨(some 17), none, (.mov (.t 0))⟩, ⟨(some 18), none, (.call 10 [(.t 17)])⟩]) (.cond (.t 18) (.seq (.reg [⟨(some 2), none, (.mov (.c (.bool true)))⟩]) .ret) .skip)) (.seq (.reg [⟨(some 20), none, (.mov (.t 0))⟩, ⟨(some 21), none, (.call 106 [(.t 20)])⟩, ⟨(some 19), none, (.mov (.t 21))⟩, ⟨(some 22), none, (.ext 0 (.t 19))⟩, ⟨(some 23), none, (.ext 1 (.t 19))⟩, ⟨(some 3), none, (.new [(.int .i64 0), .nil])⟩, ⟨none, none, (.st 2 (.t 3) (.t 22))⟩, ⟨(some 4), none, (.mov (.t 23))⟩]) (.seq (.reg [⟨(some 25), none, (.mov (.t 0))⟩, ⟨(some 26), none, (.call 107 [(.t 25)])⟩, ⟨(some 24), none, (.mov (.t 26))⟩, ⟨(some 27), none, (.ext 0 (.t 24))⟩, ⟨(some 28), none, (.ext 1 (.t 24))⟩, ⟨(some 5), none, (.new [(.int .i64 0), .nil])⟩, ⟨none, none, (.st 2 (.t 5) (.t 27))⟩, ⟨(some 6), none, (.mov (.t 28))⟩]) (.seq (.reg [⟨(some 30), none, (.ld (some 2) .undef (.t 5))⟩, ⟨(some 31), none, (.mov (.t 6))⟩, ⟨(some 32), none, (.call 108 [(.t 30), (.t 31)])⟩, ⟨(some 29), none, (.mov (.t 32))⟩, ⟨(some 33), none, (.ext 0 (.t 29))⟩, ⟨(some 34), none, (.ext 1 (.t 29))⟩, ⟨(some 7), none, (.mov (.t 33))⟩, ⟨(some 8), none, (.mov (.t 34))⟩]) (.seq (.reg [⟨(some 36), none, (.ld (some 2) .undef (.t 5))⟩, ⟨(some 37), none, (.mov (.t 6))⟩, ⟨(some 38), none, (.call 109 [(.t 36), (.t 37)])⟩, ⟨(some 35), none, (.mov (.t 38))⟩, ⟨(some 39), none, (.ext 0 (.t 35))⟩, ⟨(some 40), none, (.ext 1 (.t 35))⟩, ⟨(some 9), none, (.mov (.t 39))⟩, ⟨(some 10), none, (.mov (.t 40))⟩]) (.seq (.reg [⟨(some 41), none, (.mov (.t 0))⟩, ⟨(some 42), none, (.call 110 [(.t 41)])⟩, ⟨(some 11), none, (.new [(.int .i64 0), .nil])⟩, ⟨none, none, (.st 2 (.t 11) (.t 42))⟩]) (.seq (.reg [⟨(some 44), none, (.ld (some 2) .undef (.t 11))⟩, ⟨(some 45), none, (.call 111 [(.t 44)])⟩, ⟨(some 43), none, (.mov (.t 45))⟩, ⟨(some 46), none, (.ext 0 (.t 43))⟩, ⟨(some 47), none, (.ext 1 (.t 43))⟩, ⟨(some 12), none, (.mov (.t 46))⟩, ⟨(some 13), none, (.mov (.t 47))⟩]) (.seq (.reg [⟨(some 49), none, (.ld (some 2) .undef (.t 11))⟩, ⟨(some 50), none, (.call 112 [(.t 49)])⟩, ⟨(some 48), none, (.mov (.t 50))⟩, ⟨(some 51), none, (.ext 0 (.t 48))⟩, ⟨(some 52), none, (.ext 1 (.t 48))⟩, ⟨(some 14), none, (.mov (.t 51))⟩, ⟨(some 15), none, (.mov (.t 52))⟩]) (.cut (.reg [⟨(some 53), none, (.ld (some 2) .undef (.t 3))⟩, ⟨(some 54), none, (.mov (.t 4))⟩, ⟨(some 55), none, (.call 113 [(.t 53), (.t 54)])⟩, ⟨(some 16), none, (.mov (.t 55))⟩]) (.seq (.seq (.dreg [⟨⟨(some 56), none, (.ld (some 2) .undef (.t 3))⟩, false, false⟩, ⟨⟨(some 57), none, (.mov (.t 4))⟩, false, false⟩, ⟨⟨(some 58), none, (.call 114 [(.t 56), (.t 57)])⟩, false, false⟩, ⟨⟨(some 59), none, (.ld (some 2) .undef (.t 3))⟩, false, false⟩, ⟨⟨(some 60), none, (.mov (.t 4))⟩, false, false⟩, ⟨⟨(some 61), none, (.call 115 [(.t 59), (.t 60)])⟩, false, false⟩, ⟨⟨(some 62), none, (.bin true .neq (.t 58) (.t 61))⟩, false, false⟩, ⟨⟨(some 63), none, (.mov (.t 62))⟩, false, false⟩, ⟨⟨(some 64), (some (63, false)), (.mov (.t 8))⟩, false, false⟩, ⟨⟨(some 65), (some (63, false)), (.mov (.t 10))⟩, false, false⟩, ⟨⟨(some 66), (some (63, false)), (.bin true .neq (.t 64) (.t 65))⟩, false, false⟩, ⟨⟨(some 67), none, (.pick (.t 63) (.c (.bool true)) (.t 66))⟩, false, false⟩, ⟨⟨(some 68), none, (.mov (.t 67))⟩, false, false⟩, ⟨⟨(some 69), (some (68, false)), (.mov (.t 7))⟩, false, false⟩, ⟨⟨(some 70), (some (68, false)), (.mov (.t 9))⟩, false, false⟩, ⟨⟨(some 71), (some (68, false)), (.call 19 [(.t 69), (.t 70)])⟩, false, false⟩, ⟨⟨(some 72), (some (68, false)), (.un .not (.t 71))⟩, false, false⟩, ⟨⟨(some 73), none, (.pick (.t 68) (.c (.bool true)) (.t 72))⟩, false, false⟩, ⟨⟨(some 74), none, (.mov (.t 73))⟩, false, false⟩, ⟨⟨(some 75), (some (74, false)), (.mov (.t 13))⟩, false, false⟩, ⟨⟨(some 76), (some (74, false)), (.mov (.t 15))⟩, false, false⟩, ⟨⟨(some 77), (some (74, false)), (.bin true .neq (.t 75) (.t 76))⟩, false, false⟩, ⟨⟨(some 78), none, (.pick (.t 74) (.c (.bool true)) (.t 77))⟩, false, false⟩, ⟨⟨(some 79), none, (.mov (.t 78))⟩, false, false⟩, ⟨⟨(some 80), (some (79, false)), (.mov (.t 12))⟩, false, false⟩, ⟨⟨(some 81), (some (79, false)), (.mov (.t 14))⟩, false, false⟩, ⟨⟨(some 82), (some (79, false)), (.call 19 [(.t 80), (.t 81)])⟩, false, false⟩, ⟨⟨(some 83), (some (79, false)), (.un .not (.t 82))⟩, false, false⟩, ⟨⟨(some 84), none, (.pick (.t 79) (.c (.bool true)) (.t 83))⟩, false, false⟩, ⟨⟨(some 85), none, (.mov (.t 84))⟩, false, false⟩, ⟨⟨(some 86), (some (85, false)), (.mov (.t 16))⟩, false, true⟩, ⟨⟨(some 87), (some (85, false)), (.ld (some 2) .undef (.t 3))⟩, false, false⟩, ⟨⟨(some 88), (some (85, false)), (.mov (.t 4))⟩, false, false⟩, ⟨⟨(some 89), (some (85, false)), (.call 116 [(.t 87), (.t 88)])⟩, true, false⟩, ⟨⟨(some 90), (some (85, false)), (.call 19 [(.t 86), (.t 89)])⟩, false, false⟩, ⟨⟨(some 91), (some (85, false)), (.un .not (.t 90))⟩, false, false⟩, ⟨⟨(some 92), none, (.pick (.t 85) (.c (.bool true)) (.t 91))⟩, false, false⟩]) (.cond (.t 92) (.seq (.reg [⟨(some 2), none, (.mov (.c (.bool false)))⟩]) .ret) .skip)) (.seq (.seq (.reg [⟨(some 93), none, (.mov (.t 8))⟩, ⟨(some 94), none, (.mov (.t 93))⟩, ⟨(some 95), (some (94, true)), (.ld (some 2) .undef (.t 5))⟩, ⟨(some 96), (some (94, true)), (.mov (.t 7))⟩, ⟨(some 97), (some (94, true)), (.call 114 [(.t 95), (.t 96)])⟩, ⟨(some 98), (some (94, true)), (.un .not (.t 97))⟩, ⟨(some 99), none, (.pick (.t 94) (.t 98) (.c (.bool false)))⟩, ⟨(some 100), none, (.mov (.t 99))⟩, ⟨(some 101), (some (100, false)), (.mov (.t 13))⟩, ⟨(some 102), (some (100, false)), (.mov (.t 101))⟩, ⟨(some 103), (some (102, true)), (.ld (some 2) .undef (.t 11))⟩, ⟨(some 104), (some (102, true)), (.mov (.t 12))⟩, ⟨(some 105), (some (102, true)), (.call 114 [(.t 103), (.t 104)])⟩, ⟨(some 106), (some (102, true)), (.un .not (.t 105))⟩, ⟨(some 107), (some (100, false)), (.pick (.t 102) (.t 106) (.c (.bool false)))⟩, ⟨(some 108), none, (.pick (.t 100) (.c (.bool true)) (.t 107))⟩]) (.cond (.t 108) (.seq (.reg [⟨(some 2), none, (.mov (.c (.bool false)))⟩]) .ret) .skip)) (.cut (.seq (.reg [⟨(some 109), none, (.fad 1 (.t 11))⟩, ⟨(some 110), none, (.ld none .nil (.t 109))⟩, ⟨(some 111), none, (.len (.t 110))⟩, ⟨(some 112), none, (.bin false .leq (.t 111) (.c (.int .i64 6)))⟩, ⟨(some 113), none, (.mov (.t 112))⟩, ⟨(some 114), (some (113, true)), (.ld (some 2) .undef (.t 11))⟩, ⟨(some 115), (some (113, true)), (.call 62 [(.t 114)])⟩, ⟨(some 116), none, (.pick (.t 113) (.t 115) (.c (.bool false)))⟩, ⟨(some 117), none, (.mov (.t 116))⟩, ⟨(some 118), (some (117, true)), (.mov (.t 13))⟩, ⟨(some 119), (some (117, true)), (.un .not (.t 118))⟩, ⟨(some 120), none, (.pick (.t 117) (.t 119) (.c (.bool false)))⟩]) (.cond (.t 120) (.seq (.reg [⟨(some 2), none, (.mov (.c (.bool false)))⟩]) .ret) .skip)) (.seq (.seq (.dreg [⟨⟨(some 121), none, (.mov (.t 16))⟩, false, false⟩, ⟨⟨(some 122), none, (.len (.t 121))⟩, false, false⟩, ⟨⟨(some 123), none, (.bin false .gtr (.t 122) (.c (.int .i64 0)))⟩, false, false⟩, ⟨⟨(some 124), none, (.mov (.t 123))⟩, false, false⟩, ⟨⟨(some 125), (some (124, true)), (.mov (.t 16))⟩, false, false⟩, ⟨⟨(some 126), (some (124, true)), (.call 61 [(.t 125)])⟩, false, false⟩, ⟨⟨(some 127), (some (124, true)), (.fad 1 (.t 3))⟩, false, false⟩, ⟨⟨(some 128), (some (124, true)), (.ld none .nil (.t 127))⟩, false, false⟩, ⟨⟨(some 129), (some (124, true)), (.len (.t 128))⟩, false, false⟩, ⟨⟨(some 130), (some (124, true)), (.bin false .neq (.t 126) (.t 129))⟩, false, false⟩, ⟨⟨(some 131), none, (.pick (.t 124) (.t 130) (.c (.bool false)))⟩, false, false⟩]) (.cond (.t 131) (.seq (.reg [⟨(some 2), none, (.mov (.c (.bool false)))⟩]) .ret) .skip)) (.seq (.reg [⟨(some 132), none, (.mov (.t 16))⟩, ⟨(some 133), none, (.len (.t 132))⟩, ⟨(some 134), none, (.bin false .eql (.t 133) (.c (.int .i64 0)))⟩, ⟨(some 135), none, (.mov (.t 134))⟩, ⟨(some 136), (some (135, false)), (.ld (some 2) .undef (.t 3))⟩, ⟨(some 137), (some (135, false)), (.call 41 [(.t 136)])⟩, ⟨(some 138), (some (135, false)), (.un .not (.t 137))⟩, ⟨(some 139), none, (.pick (.t 135) (.c (.bool true)) (.t 138))⟩, ⟨(some 140), none, (.mov (.t 139))⟩, ⟨(some 141), (some (140, false)), (.mov (.t 16))⟩, ⟨(some 142), (some (140, false)), (.ld (some 2) .undef (.t 3))⟩, ⟨(some 143), (some (140, false)), (.call 42 [(.t 142)])⟩, ⟨(some 144), (some (140, false)), (.call 19 [(.t 141), (.t 143)])⟩, ⟨(some 145), none, (.pick (.t 140) (.c (.bool true)) (.t 144))⟩, ⟨(some 2), none, (.mov (.t 145))⟩]) .ret)))))))))))))))
theorem code_l_FnDivisions : fnCode Try.prog [116, 666666] 9 = some (146, sc_l_FnDivisions, [(2, none)]) := by kernel_rfl
open Classical in
noncomputable def F_l_FnDivisions : List V → Option V
  | [.list 1 cells] => if ∃ b, (∀ x ∈ b, 0 ≤ x ∧ x < 256) ∧ cells = u8s b then some (.bool true) else none
  | _ => none
theorem numR_R {n : Int} {l : List Int} (h : numR n l) : allR l := fun x hx => by have := h.2.2 x hx; unfold inR; omega
set_option maxHeartbeats 20000000
theorem fn_l_FnDivisions : FnOk Try.prog 9 F_l_FnDivisions := by
  have env := ((((((((((((((((((envNil_ok (P := Try.prog)).add fn_l_big).add fn_l_sameInts).add fn_l_total).add fn_s_DrawIsDivision).add fn_s_DrawDivisionFrom).add fn_s_DrawFindDivision).add fn_s_DivisionFrom).add fn_i_DivisionFrom).add fn_s_FindDivision).add fn_i_FindDivision).add fn_s_IsDivision).add fn_i_IsDivision).add fn_s_DivisionCounts).add fn_i_DivisionCounts).add fn_s_IsShellable).add fn_s_IsPure).add fn_s_HNumbers)
  refine fn_ok code_l_FnDivisions mixed env ?_
  intro args r h hb
  unfold F_l_FnDivisions at h
  split at h
  case h_2 => simp at h
  rename_i cells
  simp only [Option.ite_none_right_eq_some, Option.some.injEq] at h
  obtain ⟨⟨b, hbr, rfl⟩, rfl⟩ := h
  clear hb
  refine ⟨by simp, fun w0 U0 L0 N0 => ?_⟩
  have hBig : F_l_big [.list 1 (u8s b)] = some (.bool (decide (1048576 < b.length))) := by simp only [F_l_big, u8s_len]
  by_cases hlong : 1048576 < b.length
  · rw [decide_eq_true hlong] at hBig
    simp -implicitDefEqProofs [sc_l_FnDivisions, hBig]
  rw [decide_eq_false hlong] at hBig
  have hw : wfb b := ⟨hbr, by omega⟩
  have v0 := newCur_wf hw
  have hD1 : F_s_DrawIsDivision [.list 1 (u8s b)] = some (.tup [.agg [.int .i64 (fewN (newCur b)).1.1, .own 1 (ints (fewN (newCur b)).1.2)], .own 1 (ints (dcaseL (fewN (newCur b)).1.1 (fewN (newCur b)).1.2 (fewN (newCur b)).2))]) := by
    simp only [F_s_DrawIsDivision, F1_mk, dBy_list hw, Option.bind_some]
  have hD2 : F_s_DrawDivisionFrom [.list 1 (u8s b)] = some (.tup [.agg [.int .i64 (bentN (newCur b)).1.1, .own 1 (ints (bentN (newCur b)).1.2)], .own 1 (ints (caseL (bentN (newCur b)).1.1 (bentN (newCur b)).1.2 (bentN (newCur b)).2))]) := by
    simp only [F_s_DrawDivisionFrom, F_s_l19Case, F1_mk, dBy_list hw, Option.bind_some]
  have hD3 : F_s_DrawFindDivision [.list 1 (u8s b)] = some (.agg [.int .i64 (fewN (newCur b)).1.1, .own 1 (ints (fewN (newCur b)).1.2)]) := by
    simp only [F_s_DrawFindDivision, F1_mk, dBy_list hw, Option.bind_some]
  have hn1 := fewN_num (newCur b)
  have hn2 := bentN_num (newCur b)
  have hl1 := dcaseL_num (fewN_wf v0) hn1
  have hl2 := caseL_num (bentN_wf v0) hn2
  generalize dcaseL (fewN (newCur b)).1.1 (fewN (newCur b)).1.2 (fewN (newCur b)).2 = lows at *
  generalize caseL (bentN (newCur b)).1.1 (bentN (newCur b)).1.2 (bentN (newCur b)).2 = list at *
  generalize (fewN (newCur b)).1 = c1 at *
  generalize (bentN (newCur b)).1 = c2 at *
  obtain ⟨n1, l1⟩ := c1
  obtain ⟨n2, l2⟩ := c2
  simp only at hD1 hD2 hD3 hn1 hn2
  clear v0 hw hbr
  have hR1 := numR_R hn1
  have hA1 : F_s_DivisionFrom [.agg [.int .i64 n2, .list 1 (ints l2)], .list 1 (ints list)] = some (.tup [.own 1 (ints (divfL n2 l2 list)), .bool (shellB n2 l2 list)]) := by
    simp only [F_s_DivisionFrom, F2_mk, dC_agg, dL_list, Option.bind_some]
  have hA2 : F_s_FindDivision [.agg [.int .i64 n1, .list 1 (ints l1)]] = some (.tup [.own 1 (ints (fdvL n1 l1)), .bool (dec (fdvP n1 l1))]) := by
    simp only [F_s_FindDivision, F1_mk, dC_agg, Option.bind_some]
  have hA3 : F_s_DivisionCounts [.agg [.int .i64 n1, .list 1 (ints l1)], .list 1 (ints lows)] = some (.own 1 (ints (divcL n1 l1 lows))) := by
    simp only [F_s_DivisionCounts, F2_mk, dC_agg, dL_list, Option.bind_some]
  have hA4 : ∀ n l lw, F_s_IsDivision [.agg [.int .i64 n, .list 1 (ints l)], .list 1 (ints lw)] = some (.bool (dec (divP n l lw))) := fun n l lw => by
    simp only [F_s_IsDivision, F2_mk, dC_agg, dL_list, Option.bind_some]
  have hA5 : F_s_IsPure [.agg [.int .i64 n1, .list 1 (ints l1)]] = some (.bool (pureB n1 l1)) := by
    simp only [F_s_IsPure, F1_mk, dC_agg, Option.bind_some]
    rw [if_pos hR1]
  have hA6 : F_s_HNumbers [.agg [.int .i64 n1, .list 1 (ints l1)]] = some (.own 1 (ints (hnL n1 l1))) := by
    simp only [F_s_HNumbers, F1_mk, dC_agg, Option.bind_some]
  have hA7 : F_s_IsShellable [.agg [.int .i64 n1, .list 1 (ints l1)]] = some (.bool (dec (fshP n1 l1))) := by
    simp only [F_s_IsShellable, F1_mk, dC_agg, Option.bind_some]
  have hA8 : ∀ a b : List Int, F_l_sameInts [.list 1 (ints a), .list 1 (ints b)] = some (.bool (dec (a = b))) := fun a b => by
    simp only [F_l_sameInts, F2_mk, dL_list, Option.bind_some]
  have hE : dec True = true := dec_iff.2 trivial
  have hX1 := hA4 n1 l1 lows
  have hX2 := hA4 n2 l2 (divfL n2 l2 list)
  have hX3 := hA4 n1 l1 (fdvL n1 l1)
  have hY2 : shellB n2 l2 list = true → dec (divP n2 l2 (divfL n2 l2 list)) = true := fun h => dec_iff.2 (div_shell h)
  have hY3 : dec (fdvP n1 l1) = true → dec (divP n1 l1 (fdvL n1 l1)) = true := fun h => dec_iff.2 (fdv_ok (dec_iff.1 h))
  have hY4 : l1.length ≤ 6 → dec (fshP n1 l1) = true → dec (fdvP n1 l1) = true := fun h6 h => dec_iff.2 (shell_div (dec_iff.1 h) h6)
  have hZ : divcL n1 l1 lows = [] ∨ ((divcL n1 l1 lows).length ≠ 0 ∧ (divcL n1 l1 lows).length ≤ 64 ∧ (divcL n1 l1 lows).sum = l1.length ∧ (∀ x ∈ divcL n1 l1 lows, 0 ≤ x ∧ x ≤ 64) ∧ (pureB n1 l1 = true → hnL n1 l1 = divcL n1 l1 lows)) := by
    by_cases hd : divP n1 l1 lows
    · by_cases hl : l1 = []
      · subst hl
        exact .inl (divcL_nil hd)
      · have hl0 : 0 < l1.length := List.length_pos_iff.2 hl
        have htop := topZ_facets hd.1 hl
        have h0 : 0 ≤ sz (at0 l1 (l1.length - 1)) := by unfold sz; omega
        have htb := topZ_bnd (faceS l1)
        obtain ⟨a, b', c⟩ := divP_low hd (by rw [hd.2.1]; omega)
        have h64 := cplx_len hd.1
        exact .inr ⟨by rw [a]; omega, by rw [a]; omega, b', fun x hx => by have := c x hx; omega, fun hp => divP_h hd hl hp⟩
    · exact .inl (if_neg hd)
  have hTot : (divcL n1 l1 lows).length ≠ 0 → F_l_total [.list 1 (ints (divcL n1 l1 lows))] = some (.int .i64 (l1.length : Int)) := fun hne => by
    rcases hZ with h | ⟨_, a, b', c, _⟩
    · rw [h] at hne; simp at hne
    · simp only [F_l_total, F1_mk, dL_list, Option.bind_some]
      rw [if_pos ⟨c, a⟩, b']
  generalize dec (divP n1 l1 lows) = d1 at *
  generalize dec (divP n2 l2 (divfL n2 l2 list)) = d2 at *
  generalize dec (divP n1 l1 (fdvL n1 l1)) = d3 at *
  generalize divfL n2 l2 list = x at *
  generalize fdvL n1 l1 = z at *
  generalize shellB n2 l2 list = ok at *
  generalize dec (fdvP n1 l1) = one at *
  generalize dec (fshP n1 l1) = sh at *
  generalize divcL n1 l1 lows = C at *
  generalize hnL n1 l1 = hn at *
  generalize pureB n1 l1 = pu at *
  clear hA4
  have hc : (C = [] ∧ (C.length : Int) = 0) ∨ (∃ m : Nat, C.length = m + 1 ∧ F_l_total [.list 1 (ints C)] = some (.int .i64 (l1.length : Int)) ∧ (pu = false ∨ (pu = true ∧ hn = C))) := by
    rcases hZ with h | ⟨a, _, _, _, e⟩
    · exact .inl ⟨h, by rw [h]; rfl⟩
    · refine .inr ⟨C.length - 1, by omega, hTot a, ?_⟩
      cases pu with
      | false => exact .inl rfl
      | true => exact .inr ⟨rfl, e rfl⟩
  have hs : (one = true ∧ d3 = true ∧ (¬ l1.length ≤ 6 ∨ l1.length ≤ 6 ∧ sh = false ∨ l1.length ≤ 6 ∧ sh = true)) ∨ (one = false ∧ (¬ l1.length ≤ 6 ∨ l1.length ≤ 6 ∧ sh = false)) := by
    by_cases h6 : l1.length ≤ 6
    · cases one with
      | true => cases sh <;> simp [h6, hY3]
      | false => cases sh with
        | false => simp [h6]
        | true => exact absurd (hY4 h6 rfl) (by simp)
    · cases one <;> simp [h6, hY3]
  clear hZ hTot hY3 hY4
  have hok : (ok = true ∧ d2 = true) ∨ ok = false := by
    cases ok with
    | true => exact .inl ⟨rfl, hY2 rfl⟩
    | false => exact .inr rfl
  clear hY2
  simp -implicitDefEqProofs [sc_l_FnDivisions, freeOk, hBig, hD1, hD2, hD3, hA1, hA2, hA3]
  refine CutI.of (l' := [(3, .pt 2 0), (4, .sl 1 1 0 lows.length), (5, .pt 5 0), (7, .sl 6 1 0 x.length), (8, .bool ok), (9, .sl 7 1 0 x.length), (10, .bool ok), (11, .pt 9 0), (12, .sl 10 1 0 z.length), (13, .bool one), (14, .sl 11 1 0 z.length), (15, .bool one), (16, .sl 12 1 0 C.length)]) (SubI.slots rfl (by simp)) ?_
  clear hD1 hD2 hD3 hA1 hA2 hBig
  have fin : CutI 0 (fun l s => True) [] ([], 0) → True := fun _ => trivial
  have h6i : ((l1.length : Int) ≤ 6) ↔ l1.length ≤ 6 := by omega
  rcases hok with ⟨rfl, rfl⟩ | rfl
  all_goals rcases hs with ⟨rfl, rfl, h6 | ⟨h6, rfl⟩ | ⟨h6, rfl⟩⟩ | ⟨rfl, h6 | ⟨h6, rfl⟩⟩
  all_goals
    have h6j := h6i
    simp only [h6] at h6j
    simp -implicitDefEqProofs [freeOk, hA3, hX1, hX2, hX3, hA7, F_l_sameInts, hE, h6, h6j]
    refine CutI.of (l' := [(3, .pt 2 0), (16, .sl 12 1 0 C.length)]) (SubI.slots rfl (by simp)) ?_
    clear hA3 hX1 hX2 hX3 hA7
    rcases hc with ⟨rfl, hc0⟩ | ⟨m, hm, hT, rfl | ⟨rfl, rfl⟩⟩
    · simp -implicitDefEqProofs [freeOk, hA5, hA6, F_l_sameInts, hE]
    · have hm1 : (0 : Int) < C.length := by omega
      have hm2 : ¬ ((C.length : Int) = 0) := by omega
      have hm3 : ¬ (C.length = 0) := by omega
      have hm4 : C ≠ [] := by intro h; rw [h] at hm; simp at hm
      simp -implicitDefEqProofs [freeOk, hA5, hA6, hT, F_l_sameInts, hE, hm1, hm2, hm3, hm4]
    · have hm1 : (0 : Int) < hn.length := by omega
      have hm2 : ¬ ((hn.length : Int) = 0) := by omega
      have hm3 : ¬ (hn.length = 0) := by omega
      have hm4 : hn ≠ [] := by intro h; rw [h] at hm; simp at hm
      simp -implicitDefEqProofs [freeOk, hA5, hA6, hT, F_l_sameInts, hE, hm1, hm2, hm3, hm4]
end Go.Proofs.Ytmemomfffehnkaa
