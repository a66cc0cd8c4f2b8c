import Derived.Test.YtkfjacclpjgafaaGbA
import Derived.Test.YtkfjacclpjgafaaGaJ
import Derived.Test.YtkfjacclpjgafaaKF
namespace Go.Proofs.Ytkfjacclpjgafaa
open Go Go.RowKit
set_option maxRecDepth 1000000
set_option linter.unusedSimpArgs false
set_option linter.unusedVariables false
set_option maxHeartbeats 1000000
noncomputable def R0CollapseAll (n : Int) (l : List Int) : List Int := caL n l
noncomputable def P0CollapseAll (n : Int) (l : List Int) : Int := caN n l
noncomputable def R1CollapseAll (n : Int) (l : List Int) : List Int := caT n l
noncomputable def R2CollapseAll (n : Int) (l : List Int) : Bool := dec (cplx n l)
theorem caS_len (n : Int) : ∀ (k : Nat) (l st : List Int), l.length ≤ 64 → st.length + k ≤ 64 → (caS n k l st).1.length ≤ 64 ∧ (caS n k l st).2.length ≤ 64
  | 0, l, st, h1, h2 => ⟨h1, by simp only [caS]; omega⟩
  | k + 1, l, st, h1, h2 => by
    by_cases h : stuckP n l
    · rw [caS_stuck h]; exact ⟨h1, by simp only; omega⟩
    · rw [caS_step h]
      exact caS_len n k _ _ (setsOf_len _) (by simp only [List.length_append, List.length_singleton]; omega)
theorem bnd0CollapseAll (n : Int) (l : List Int) : (R0CollapseAll n l).length ≤ 64 := by
  unfold R0CollapseAll caL
  split
  · rename_i h; exact (caS_len n 64 l [] (cplx_len h) (by simp)).1
  · simp
theorem bnd1CollapseAll (n : Int) (l : List Int) : (R1CollapseAll n l).length ≤ 64 := by
  unfold R1CollapseAll caT
  split
  · rename_i h; exact (caS_len n 64 l [] (cplx_len h) (by simp)).2
  · simp
theorem resSCollapseAll (n : Int) (l : List Int) : F_s_CollapseAll [.agg [.int .i64 n, .list 1 (ints l)]] = some (.tup [.agg [.int .i64 (P0CollapseAll n l), .own 1 (ints (R0CollapseAll n l))], .own 1 (ints (R1CollapseAll n l)), .bool (R2CollapseAll n l)]) := by simp [F_s_CollapseAll, R0CollapseAll, P0CollapseAll, R1CollapseAll, R2CollapseAll]
theorem resICollapseAll (n : Int) (l : List Int) : F_s_CollapseAll [.agg [.int .i64 n, .list 1 (ints l)]] = some (.tup [.agg [.int .i64 (P0CollapseAll n l), .own 1 (ints (R0CollapseAll n l))], .own 1 (ints (R1CollapseAll n l)), .bool (R2CollapseAll n l)]) := resSCollapseAll n l
def sc_l_FnExactCollapseAll : SC := (.seq (.reg [⟨(some 1), none, (.box (.t 0))⟩, ⟨(some 2), none, (.mov (.c (.bool false)))⟩]) (.seq (.reg [⟨(some 3), none, (.mov (.c (.int .i64 1048576)))⟩]) (.seq (.reg [⟨(some 17), none, (.ld (some 2) .undef (.t 1))⟩, ⟨(some 18), none, (.mov (.t 3))⟩, ⟨(some 19), none, (.call 17 [(.t 17), (.t 18)])⟩, ⟨(some 3), none, (.mov (.t 19))⟩]) (.seq (.seq (.reg [⟨(some 20), none, (.mov (.t 3))⟩, ⟨(some 21), none, (.bin false .lss (.t 20) (.c (.int .i64 0)))⟩]) (.cond (.t 21) (.seq (.reg [⟨(some 2), none, (.mov (.c (.bool true)))⟩]) .ret) .skip)) (.seq (.reg [⟨(some 23), none, (.ld (some 2) .undef (.t 1))⟩, ⟨(some 24), none, (.call 19 [(.t 23)])⟩, ⟨(some 25), none, (.call 38 [(.t 24)])⟩, ⟨(some 22), none, (.mov (.t 25))⟩, ⟨(some 26), none, (.ext 0 (.t 22))⟩, ⟨(some 27), none, (.ext 1 (.t 22))⟩, ⟨(some 28), none, (.ext 2 (.t 22))⟩, ⟨(some 4), none, (.new [(.int .i64 0), .nil])⟩, ⟨none, none, (.st 2 (.t 4) (.t 26))⟩, ⟨(some 5), none, (.mov (.t 27))⟩, ⟨(some 6), none, (.mov (.t 28))⟩]) (.seq (.reg [⟨(some 29), none, (.ld (some 2) .undef (.t 1))⟩, ⟨(some 30), none, (.call 19 [(.t 29)])⟩, ⟨(some 7), none, (.new [(.int .i64 0), .nil])⟩, ⟨none, none, (.st 2 (.t 7) (.t 30))⟩]) (.seq (.reg [⟨(some 32), none, (.ld (some 2) .undef (.t 7))⟩, ⟨(some 33), none, (.call 39 [(.t 32)])⟩, ⟨(some 31), none, (.mov (.t 33))⟩, ⟨(some 34), none, (.ext 0 (.t 31))⟩, ⟨(some 35), none, (.ext 1 (.t 31))⟩, ⟨(some 36), none, (.ext 2 (.t 31))⟩, ⟨(some 8), none, (.new [(.int .i64 0), .nil])⟩, ⟨none, none, (.st 2 (.t 8) (.t 34))⟩, ⟨(some 9), none, (.mov (.t 35))⟩, ⟨(some 10), none, (.mov (.t 36))⟩]) (.seq (.seq (.reg [⟨(some 37), none, (.ld (some 2) .undef (.t 8))⟩, ⟨(some 38), none, (.ld (some 2) .undef (.t 4))⟩, ⟨(some 39), none, (.call 22 [(.t 37), (.t 38)])⟩, ⟨(some 40), none, (.un .not (.t 39))⟩, ⟨(some 41), none, (.mov (.t 40))⟩, ⟨(some 42), (some (41, false)), (.mov (.t 9))⟩, ⟨(some 43), (some (41, false)), (.mov (.t 5))⟩, ⟨(some 44), (some (41, false)), (.call 23 [(.t 42), (.t 43)])⟩, ⟨(some 45), (some (41, false)), (.un .not (.t 44))⟩, ⟨(some 46), none, (.pick (.t 41) (.c (.bool true)) (.t 45))⟩, ⟨(some 47), none, (.mov (.t 46))⟩, ⟨(some 48), (some (47, false)), (.mov (.t 10))⟩, ⟨(some 49), (some (47, false)), (.mov (.t 6))⟩, ⟨(some 50), (some (47, false)), (.bin true .neq (.t 48) (.t 49))⟩, ⟨(some 51), none, (.pick (.t 47) (.c (.bool true)) (.t 50))⟩]) (.cond (.t 51) (.seq (.reg [⟨(some 2), none, (.mov (.c (.bool false)))⟩]) .ret) .skip)) (.seq (.seq (.dreg [⟨⟨(some 52), none, (.ld (some 2) .undef (.t 7))⟩, false, false⟩, ⟨⟨(some 53), none, (.ld (some 2) .undef (.t 1))⟩, false, false⟩, ⟨⟨(some 54), none, (.call 19 [(.t 53)])⟩, false, false⟩, ⟨⟨(some 55), none, (.call 22 [(.t 52), (.t 54)])⟩, false, false⟩, ⟨⟨(some 56), none, (.un .not (.t 55))⟩, false, false⟩]) (.cond (.t 56) (.seq (.reg [⟨(some 2), none, (.mov (.c (.bool false)))⟩]) .ret) .skip)) (.seq (.reg [⟨(some 11), none, (.mov (.c (.int .i64 1)))⟩]) (.seq (.reg [⟨(some 57), none, (.ld (some 2) .undef (.t 7))⟩, ⟨(some 58), none, (.mov (.t 11))⟩, ⟨(some 59), none, (.call 26 [(.t 57), (.t 58)])⟩, ⟨(some 11), none, (.mov (.t 59))⟩]) (.seq (.seq (.reg [⟨(some 60), none, (.mov (.t 11))⟩, ⟨(some 61), none, (.bin false .lss (.t 60) (.c (.int .i64 0)))⟩, ⟨(some 62), none, (.mov (.t 61))⟩, ⟨(some 63), (some (62, false)), (.ld (some 2) .undef (.t 8))⟩, ⟨(some 64), (some (62, false)), (.ld (some 2) .undef (.t 4))⟩, ⟨(some 65), (some (62, false)), (.call 22 [(.t 63), (.t 64)])⟩, ⟨(some 66), (some (62, false)), (.un .not (.t 65))⟩, ⟨(some 67), none, (.pick (.t 62) (.c (.bool true)) (.t 66))⟩, ⟨(some 68), none, (.mov (.t 67))⟩, ⟨(some 69), (some (68, false)), (.mov (.t 9))⟩, ⟨(some 70), (some (68, false)), (.mov (.t 5))⟩, ⟨(some 71), (some (68, false)), (.call 23 [(.t 69), (.t 70)])⟩, ⟨(some 72), (some (68, false)), (.un .not (.t 71))⟩, ⟨(some 73), none, (.pick (.t 68) (.c (.bool true)) (.t 72))⟩, ⟨(some 74), none, (.mov (.t 73))⟩, ⟨(some 75), (some (74, false)), (.mov (.t 10))⟩, ⟨(some 76), (some (74, false)), (.mov (.t 6))⟩, ⟨(some 77), (some (74, false)), (.bin true .neq (.t 75) (.t 76))⟩, ⟨(some 78), none, (.pick (.t 74) (.c (.bool true)) (.t 77))⟩]) (.cond (.t 78) (.seq (.reg [⟨(some 2), none, (.mov (.c (.bool false)))⟩]) .ret) .skip)) (.seq (.reg [⟨(some 12), none, (.mov (.c (.int .i64 1)))⟩]) (.seq (.reg [⟨(some 79), none, (.ld (some 2) .undef (.t 8))⟩, ⟨(some 80), none, (.mov (.t 12))⟩, ⟨(some 81), none, (.call 26 [(.t 79), (.t 80)])⟩, ⟨(some 12), none, (.mov (.t 81))⟩]) (.seq (.reg [⟨(some 82), none, (.mov (.t 9))⟩, ⟨(some 83), none, (.mov (.t 12))⟩, ⟨(some 84), none, (.call 27 [(.t 82), (.t 83)])⟩, ⟨(some 12), none, (.mov (.t 84))⟩]) (.seq (.reg [⟨(some 13), none, (.mov (.c (.int .i64 1)))⟩]) (.seq (.reg [⟨(some 85), none, (.ld (some 2) .undef (.t 8))⟩, ⟨(some 86), none, (.mov (.t 13))⟩, ⟨(some 87), none, (.call 33 [(.t 85), (.t 86)])⟩, ⟨(some 13), none, (.mov (.t 87))⟩]) (.seq (.seq (.reg [⟨(some 88), none, (.mov (.t 13))⟩, ⟨(some 89), none, (.bin false .lss (.t 88) (.c (.int .i64 0)))⟩]) (.cond (.t 89) (.seq (.reg [⟨(some 2), none, (.mov (.c (.bool false)))⟩]) .ret) .skip)) (.seq (.reg [⟨(some 90), none, (.mov (.t 9))⟩, ⟨(some 91), none, (.mov (.t 13))⟩, ⟨(some 92), none, (.call 28 [(.t 90), (.t 91)])⟩, ⟨(some 13), none, (.mov (.t 92))⟩]) (.seq (.seq (.reg [⟨(some 93), none, (.mov (.t 13))⟩, ⟨(some 94), none, (.bin false .lss (.t 93) (.c (.int .i64 0)))⟩]) (.cond (.t 94) (.seq (.reg [⟨(some 2), none, (.mov (.c (.bool false)))⟩]) .ret) .skip)) (.seq (.seq (.reg [⟨(some 95), none, (.mov (.t 13))⟩, ⟨(some 96), none, (.mov (.t 12))⟩, ⟨(some 97), none, (.bin false .neq (.t 95) (.t 96))⟩]) (.cond (.t 97) (.seq (.reg [⟨(some 2), none, (.mov (.c (.bool false)))⟩]) .ret) .skip)) (.seq (.reg [⟨(some 99), none, (.ld (some 2) .undef (.t 1))⟩, ⟨(some 100), none, (.call 19 [(.t 99)])⟩, ⟨(some 101), none, (.call 39 [(.t 100)])⟩, ⟨(some 98), none, (.mov (.t 101))⟩, ⟨(some 102), none, (.ext 0 (.t 98))⟩, ⟨(some 103), none, (.ext 1 (.t 98))⟩, ⟨(some 104), none, (.ext 2 (.t 98))⟩, ⟨(some 14), none, (.new [(.int .i64 0), .nil])⟩, ⟨none, none, (.st 2 (.t 14) (.t 102))⟩, ⟨(some 15), none, (.mov (.t 103))⟩, ⟨(some 16), none, (.mov (.t 104))⟩]) (.seq (.seq (.reg [⟨(some 105), none, (.ld (some 2) .undef (.t 14))⟩, ⟨(some 106), none, (.ld (some 2) .undef (.t 4))⟩, ⟨(some 107), none, (.call 22 [(.t 105), (.t 106)])⟩, ⟨(some 108), none, (.un .not (.t 107))⟩, ⟨(some 109), none, (.mov (.t 108))⟩, ⟨(some 110), (some (109, false)), (.mov (.t 15))⟩, ⟨(some 111), (some (109, false)), (.mov (.t 5))⟩, ⟨(some 112), (some (109, false)), (.call 23 [(.t 110), (.t 111)])⟩, ⟨(some 113), (some (109, false)), (.un .not (.t 112))⟩, ⟨(some 114), none, (.pick (.t 109) (.c (.bool true)) (.t 113))⟩, ⟨(some 115), none, (.mov (.t 114))⟩, ⟨(some 116), (some (115, false)), (.mov (.t 16))⟩, ⟨(some 117), (some (115, false)), (.mov (.t 6))⟩, ⟨(some 118), (some (115, false)), (.bin true .neq (.t 116) (.t 117))⟩, ⟨(some 119), none, (.pick (.t 115) (.c (.bool true)) (.t 118))⟩]) (.cond (.t 119) (.seq (.reg [⟨(some 2), none, (.mov (.c (.bool false)))⟩]) .ret) .skip)) (.seq (.reg [⟨(some 13), none, (.mov (.c (.int .i64 1)))⟩]) (.seq (.reg [⟨(some 120), none, (.ld (some 2) .undef (.t 8))⟩, ⟨(some 121), none, (.mov (.t 13))⟩, ⟨(some 122), none, (.call 33 [(.t 120), (.t 121)])⟩, ⟨(some 13), none, (.mov (.t 122))⟩]) (.seq (.seq (.reg [⟨(some 123), none, (.mov (.t 13))⟩, ⟨(some 124), none, (.bin false .lss (.t 123) (.c (.int .i64 0)))⟩]) (.cond (.t 124) (.seq (.reg [⟨(some 2), none, (.mov (.c (.bool false)))⟩]) .ret) .skip)) (.seq (.reg [⟨(some 125), none, (.mov (.t 9))⟩, ⟨(some 126), none, (.mov (.t 13))⟩, ⟨(some 127), none, (.call 28 [(.t 125), (.t 126)])⟩, ⟨(some 13), none, (.mov (.t 127))⟩]) (.seq (.seq (.reg [⟨(some 128), none, (.mov (.t 13))⟩, ⟨(some 129), none, (.bin false .lss (.t 128) (.c (.int .i64 0)))⟩]) (.cond (.t 129) (.seq (.reg [⟨(some 2), none, (.mov (.c (.bool false)))⟩]) .ret) .skip)) (.seq (.seq (.reg [⟨(some 130), none, (.mov (.t 13))⟩, ⟨(some 131), none, (.mov (.t 12))⟩, ⟨(some 132), none, (.bin false .neq (.t 130) (.t 131))⟩]) (.cond (.t 132) (.seq (.reg [⟨(some 2), none, (.mov (.c (.bool false)))⟩]) .ret) .skip)) (.seq (.reg [⟨(some 2), none, (.mov (.c (.bool true)))⟩]) .ret))))))))))))))))))))))))))))))
theorem code_l_FnExactCollapseAll : fnCode Try.prog [] 9 = some (133, sc_l_FnExactCollapseAll, [(2, none)]) := by kernel_rfl
open Classical in
noncomputable def F_l_FnExactCollapseAll : List V → Option V := F1 dC fun c0 => if allR c0.2 then some (.bool true) else none
theorem fn_l_FnExactCollapseAll : FnOk Try.prog 9 F_l_FnExactCollapseAll := by
  have env := ((((((((((envNil_ok (P := Try.prog)).add fn_s_CollapseAll).add fn_i_CollapseAll).add fn_l_eqComplex).add fn_l_szComplex).add fn_l_toComplex).add fn_l_eqIntS).add fn_l_heldIntS).add fn_l_heldComplex).addl ln_l_markComplex).addl ln_l_markIntS
  refine fn_ok code_l_FnExactCollapseAll mixed env ?_
  intro args r h hb
  obtain ⟨_, ⟨n, l⟩, rfl, h1, h9⟩ := F1_inv h
  cases dC_inv h1
  simp only [Option.ite_none_right_eq_some, Option.some.injEq] at h9
  obtain ⟨hc0, rfl⟩ := h9
  refine ⟨by simp, fun w0 U0 L0 N0 => ?_⟩
  clear h hb
  have hFS := resSCollapseAll n l
  have hFI := resICollapseAll n l
  have hb0 := bnd0CollapseAll n l
  generalize P0CollapseAll n l = P0 at *
  generalize R0CollapseAll n l = R0 at *
  have hb1 := bnd1CollapseAll n l
  generalize R1CollapseAll n l = R1 at *
  generalize R2CollapseAll n l = R2 at *
  by_cases hl2 : 1048576 < l.length
  · have e : leftOf l.length 1048576 = -1 := by simp only [leftOf]; split <;> omega
    simp -implicitDefEqProofs [sc_l_FnExactCollapseAll, F_l_szComplex, e]
    try omega
  have e : leftOf l.length 1048576 = 1048576 - l.length := by simp only [leftOf]; split <;> omega
  have hl3 : l.length ≤ 1048576 := by omega
  have hl7 : (l.length : Int) ≤ 1048576 := by omega
  have hl8 : ¬ ((1048576 : Int) - l.length < 0) := by omega
  have hm0 := markG_of (l := l) (len := l.length) (k := 1) rfl (by omega) (by omega)
  have hk0 : ¬ ((1 + l.length) < (0 : Int)) := by omega
  have hr0 := markG_of (l := R0) (len := R0.length) (k := 1) rfl (by omega) (by omega)
  have hh0 := heldG_of (k := 1) (n := R0.length) (by omega) (by omega)
  have hn0 : ¬ ((1 + R0.length) < (0 : Int)) := by omega
  have hr1 := markG_of (l := R1) (len := R1.length) (k := (1 + R0.length)) rfl (by omega) (by omega)
  have hh1 := heldG_of (k := (1 + R0.length)) (n := R1.length) (by omega) (by omega)
  have hn1 : ¬ (((1 + R0.length) + R1.length) < (0 : Int)) := by omega
  simp -implicitDefEqProofs [sc_l_FnExactCollapseAll, F_l_eqComplex, F_l_szComplex, F_l_toComplex, F_l_eqIntS, F_l_heldIntS, F_l_heldComplex, G_l_markComplex, G_l_markIntS, ren0, hFS, hFI, e, hl3, hl7, hl8, hm0, hk0, hr0, hh0, hn0, hr1, hh1, hn1]
  try omega
end Go.Proofs.Ytkfjacclpjgafaa
