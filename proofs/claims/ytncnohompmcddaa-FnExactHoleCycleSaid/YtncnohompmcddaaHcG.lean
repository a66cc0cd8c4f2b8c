import Derived.Test.YtncnohompmcddaaHcE
import Derived.Test.YtncnohompmcddaaHcF
import Derived.Test.YtncnohompmcddaaKF
namespace Go.Proofs.Ytncnohompmcddaa
open Go Go.RowKit
set_option maxRecDepth 1000000
set_option linter.unusedSimpArgs false
set_option linter.unusedVariables false
set_option maxHeartbeats 1000000
noncomputable def R0HoleCycle (n : Int) (l : List Int) (k p : Int) : List Int := (hcF n l k p).1
noncomputable def R1HoleCycle (n : Int) (l : List Int) (k p : Int) : Bool := (hcF n l k p).2
theorem bnd0HoleCycle (n : Int) (l : List Int) (k p : Int) : (R0HoleCycle n l k p).length ≤ 64 := hcF_len n l k p
theorem resSHoleCycle (n : Int) (l : List Int) (k p : Int) : F_s_HoleCycle [.agg [.int .i64 n, .list 1 (ints l)], .int .i64 k, .int .i64 p] = some (.tup [.own 1 (ints (R0HoleCycle n l k p)), .bool (R1HoleCycle n l k p)]) := by simp [F_s_HoleCycle, R0HoleCycle, R1HoleCycle]
theorem resIHoleCycle (n : Int) (l : List Int) (k p : Int) : F_s_HoleCycle [.agg [.int .i64 n, .list 1 (ints l)], .int .i64 k, .int .i64 p] = some (.tup [.own 1 (ints (R0HoleCycle n l k p)), .bool (R1HoleCycle n l k p)]) := resSHoleCycle n l k p
def sc_l_FnExactHoleCycle : SC := (.seq (.reg [⟨(some 3), none, (.box (.t 0))⟩, ⟨(some 6), none, (.mov (.c (.bool false)))⟩]) (.seq (.reg [⟨(some 7), none, (.mov (.c (.int .i64 1048576)))⟩]) (.seq (.reg [⟨(some 18), none, (.ld (some 2) .undef (.t 3))⟩, ⟨(some 19), none, (.mov (.t 7))⟩, ⟨(some 20), none, (.call 10 [(.t 18), (.t 19)])⟩, ⟨(some 7), none, (.mov (.t 20))⟩]) (.seq (.seq (.reg [⟨(some 21), none, (.mov (.t 7))⟩, ⟨(some 22), none, (.bin false .lss (.t 21) (.c (.int .i64 0)))⟩]) (.cond (.t 22) (.seq (.reg [⟨(some 6), none, (.mov (.c (.bool true)))⟩]) .ret) .skip)) (.seq (.reg [⟨(some 24), none, (.ld (some 2) .undef (.t 3))⟩, ⟨(some 25), none, (.call 12 [(.t 24)])⟩, ⟨(some 26), none, (.mov (.t 1))⟩, ⟨(some 27), none, (.mov (.t 2))⟩, ⟨(some 28), none, (.call 19 [(.t 25), (.t 26), (.t 27)])⟩, ⟨(some 23), none, (.mov (.t 28))⟩, ⟨(some 29), none, (.ext 0 (.t 23))⟩, ⟨(some 30), none, (.ext 1 (.t 23))⟩, ⟨(some 8), none, (.mov (.t 29))⟩, ⟨(some 9), none, (.mov (.t 30))⟩]) (.seq (.reg [⟨(some 31), none, (.ld (some 2) .undef (.t 3))⟩, ⟨(some 32), none, (.call 12 [(.t 31)])⟩, ⟨(some 10), none, (.new [(.int .i64 0), .nil])⟩, ⟨none, none, (.st 2 (.t 10) (.t 32))⟩]) (.seq (.reg [⟨(some 34), none, (.ld (some 2) .undef (.t 10))⟩, ⟨(some 35), none, (.mov (.t 1))⟩, ⟨(some 36), none, (.mov (.t 2))⟩, ⟨(some 37), none, (.call 20 [(.t 34), (.t 35), (.t 36)])⟩, ⟨(some 33), none, (.mov (.t 37))⟩, ⟨(some 38), none, (.ext 0 (.t 33))⟩, ⟨(some 39), none, (.ext 1 (.t 33))⟩, ⟨(some 11), none, (.mov (.t 38))⟩, ⟨(some 12), none, (.mov (.t 39))⟩]) (.seq (.seq (.reg [⟨(some 40), none, (.mov (.t 11))⟩, ⟨(some 41), none, (.mov (.t 8))⟩, ⟨(some 42), none, (.call 21 [(.t 40), (.t 41)])⟩, ⟨(some 43), none, (.un .not (.t 42))⟩, ⟨(some 44), none, (.mov (.t 43))⟩, ⟨(some 45), (some (44, false)), (.mov (.t 12))⟩, ⟨(some 46), (some (44, false)), (.mov (.t 9))⟩, ⟨(some 47), (some (44, false)), (.bin true .neq (.t 45) (.t 46))⟩, ⟨(some 48), none, (.pick (.t 44) (.c (.bool true)) (.t 47))⟩]) (.cond (.t 48) (.seq (.reg [⟨(some 6), none, (.mov (.c (.bool false)))⟩]) .ret) .skip)) (.seq (.seq (.dreg [⟨⟨(some 49), none, (.ld (some 2) .undef (.t 10))⟩, false, false⟩, ⟨⟨(some 50), none, (.ld (some 2) .undef (.t 3))⟩, false, false⟩, ⟨⟨(some 51), none, (.call 12 [(.t 50)])⟩, false, false⟩, ⟨⟨(some 52), none, (.call 14 [(.t 49), (.t 51)])⟩, false, false⟩, ⟨⟨(some 53), none, (.un .not (.t 52))⟩, false, false⟩]) (.cond (.t 53) (.seq (.reg [⟨(some 6), none, (.mov (.c (.bool false)))⟩]) .ret) .skip)) (.seq (.reg [⟨(some 13), none, (.mov (.c (.int .i64 1)))⟩]) (.seq (.reg [⟨(some 54), none, (.ld (some 2) .undef (.t 10))⟩, ⟨(some 55), none, (.mov (.t 13))⟩, ⟨(some 56), none, (.call 22 [(.t 54), (.t 55)])⟩, ⟨(some 13), none, (.mov (.t 56))⟩]) (.seq (.seq (.reg [⟨(some 57), none, (.mov (.t 13))⟩, ⟨(some 58), none, (.bin false .lss (.t 57) (.c (.int .i64 0)))⟩, ⟨(some 59), none, (.mov (.t 58))⟩, ⟨(some 60), (some (59, false)), (.mov (.t 11))⟩, ⟨(some 61), (some (59, false)), (.mov (.t 8))⟩, ⟨(some 62), (some (59, false)), (.call 21 [(.t 60), (.t 61)])⟩, ⟨(some 63), (some (59, false)), (.un .not (.t 62))⟩, ⟨(some 64), none, (.pick (.t 59) (.c (.bool true)) (.t 63))⟩, ⟨(some 65), none, (.mov (.t 64))⟩, ⟨(some 66), (some (65, false)), (.mov (.t 12))⟩, ⟨(some 67), (some (65, false)), (.mov (.t 9))⟩, ⟨(some 68), (some (65, false)), (.bin true .neq (.t 66) (.t 67))⟩, ⟨(some 69), none, (.pick (.t 65) (.c (.bool true)) (.t 68))⟩]) (.cond (.t 69) (.seq (.reg [⟨(some 6), none, (.mov (.c (.bool false)))⟩]) .ret) .skip)) (.seq (.reg [⟨(some 14), none, (.mov (.c (.int .i64 1)))⟩]) (.seq (.reg [⟨(some 70), none, (.mov (.t 11))⟩, ⟨(some 71), none, (.mov (.t 14))⟩, ⟨(some 72), none, (.call 23 [(.t 70), (.t 71)])⟩, ⟨(some 14), none, (.mov (.t 72))⟩]) (.seq (.reg [⟨(some 15), none, (.mov (.c (.int .i64 1)))⟩]) (.seq (.reg [⟨(some 73), none, (.mov (.t 11))⟩, ⟨(some 74), none, (.mov (.t 15))⟩, ⟨(some 75), none, (.call 24 [(.t 73), (.t 74)])⟩, ⟨(some 15), none, (.mov (.t 75))⟩]) (.seq (.seq (.reg [⟨(some 76), none, (.mov (.t 15))⟩, ⟨(some 77), none, (.bin false .lss (.t 76) (.c (.int .i64 0)))⟩]) (.cond (.t 77) (.seq (.reg [⟨(some 6), none, (.mov (.c (.bool false)))⟩]) .ret) .skip)) (.seq (.seq (.reg [⟨(some 78), none, (.mov (.t 15))⟩, ⟨(some 79), none, (.mov (.t 14))⟩, ⟨(some 80), none, (.bin false .neq (.t 78) (.t 79))⟩]) (.cond (.t 80) (.seq (.reg [⟨(some 6), none, (.mov (.c (.bool false)))⟩]) .ret) .skip)) (.seq (.reg [⟨(some 82), none, (.ld (some 2) .undef (.t 3))⟩, ⟨(some 83), none, (.call 12 [(.t 82)])⟩, ⟨(some 84), none, (.mov (.t 1))⟩, ⟨(some 85), none, (.mov (.t 2))⟩, ⟨(some 86), none, (.call 20 [(.t 83), (.t 84), (.t 85)])⟩, ⟨(some 81), none, (.mov (.t 86))⟩, ⟨(some 87), none, (.ext 0 (.t 81))⟩, ⟨(some 88), none, (.ext 1 (.t 81))⟩, ⟨(some 16), none, (.mov (.t 87))⟩, ⟨(some 17), none, (.mov (.t 88))⟩]) (.seq (.seq (.reg [⟨(some 89), none, (.mov (.t 16))⟩, ⟨(some 90), none, (.mov (.t 8))⟩, ⟨(some 91), none, (.call 21 [(.t 89), (.t 90)])⟩, ⟨(some 92), none, (.un .not (.t 91))⟩, ⟨(some 93), none, (.mov (.t 92))⟩, ⟨(some 94), (some (93, false)), (.mov (.t 17))⟩, ⟨(some 95), (some (93, false)), (.mov (.t 9))⟩, ⟨(some 96), (some (93, false)), (.bin true .neq (.t 94) (.t 95))⟩, ⟨(some 97), none, (.pick (.t 93) (.c (.bool true)) (.t 96))⟩]) (.cond (.t 97) (.seq (.reg [⟨(some 6), none, (.mov (.c (.bool false)))⟩]) .ret) .skip)) (.seq (.reg [⟨(some 15), none, (.mov (.c (.int .i64 1)))⟩]) (.seq (.reg [⟨(some 98), none, (.mov (.t 11))⟩, ⟨(some 99), none, (.mov (.t 15))⟩, ⟨(some 100), none, (.call 24 [(.t 98), (.t 99)])⟩, ⟨(some 15), none, (.mov (.t 100))⟩]) (.seq (.seq (.reg [⟨(some 101), none, (.mov (.t 15))⟩, ⟨(some 102), none, (.bin false .lss (.t 101) (.c (.int .i64 0)))⟩]) (.cond (.t 102) (.seq (.reg [⟨(some 6), none, (.mov (.c (.bool false)))⟩]) .ret) .skip)) (.seq (.seq (.reg [⟨(some 103), none, (.mov (.t 15))⟩, ⟨(some 104), none, (.mov (.t 14))⟩, ⟨(some 105), none, (.bin false .neq (.t 103) (.t 104))⟩]) (.cond (.t 105) (.seq (.reg [⟨(some 6), none, (.mov (.c (.bool false)))⟩]) .ret) .skip)) (.seq (.reg [⟨(some 6), none, (.mov (.c (.bool true)))⟩]) .ret)))))))))))))))))))))))))
theorem code_l_FnExactHoleCycle : fnCode Try.prog [] 6 = some (106, sc_l_FnExactHoleCycle, [(6, none)]) := by kernel_rfl
open Classical in
noncomputable def F_l_FnExactHoleCycle : List V → Option V := F3 dC dI dI fun c0 c1 c2 => if allR c0.2 ∧ inR c1 ∧ inR c2 then some (.bool true) else none
theorem fn_l_FnExactHoleCycle : FnOk Try.prog 6 F_l_FnExactHoleCycle := by
  have env := (((((((((envNil_ok (P := Try.prog)).add fn_s_HoleCycle).add fn_i_HoleCycle).add fn_l_eqComplex).add fn_l_szComplex).add fn_l_toComplex).add fn_l_eqIntS).add fn_l_heldIntS).addl ln_l_markComplex).addl ln_l_markIntS
  refine fn_ok code_l_FnExactHoleCycle mixed env ?_
  intro args r h hb
  obtain ⟨_, _, _, ⟨n, l⟩, x1, x2, rfl, h1, h2, h3, h9⟩ := F3_inv h
  cases dC_inv h1
  cases dI_inv h2
  cases dI_inv h3
  simp only [Option.ite_none_right_eq_some, Option.some.injEq] at h9
  obtain ⟨⟨hc0, hc1, hc2⟩, rfl⟩ := h9
  refine ⟨by simp, fun w0 U0 L0 N0 => ?_⟩
  clear h hb
  have hFS := resSHoleCycle n l x1 x2
  have hFI := resIHoleCycle n l x1 x2
  have hb0 := bnd0HoleCycle n l x1 x2
  generalize R0HoleCycle n l x1 x2 = R0 at *
  generalize R1HoleCycle n l x1 x2 = R1 at *
  by_cases hl2 : 1048576 < l.length
  · have e : leftOf l.length 1048576 = -1 := by simp only [leftOf]; split <;> omega
    simp -implicitDefEqProofs [sc_l_FnExactHoleCycle, F_l_szComplex, e]
    try omega
  have e : leftOf l.length 1048576 = 1048576 - l.length := by simp only [leftOf]; split <;> omega
  have hl3 : l.length ≤ 1048576 := by omega
  have hl7 : (l.length : Int) ≤ 1048576 := by omega
  have hl8 : ¬ ((1048576 : Int) - l.length < 0) := by omega
  have hm0 := markG_of (l := l) (len := l.length) (k := 1) rfl (by omega) (by omega)
  have hk0 : ¬ ((1 + l.length) < (0 : Int)) := by omega
  have hr0 := markG_of (l := R0) (len := R0.length) (k := 1) rfl (by omega) (by omega)
  have hh0 := heldG_of (k := 1) (n := R0.length) (by omega) (by omega)
  have hn0 : ¬ ((1 + R0.length) < (0 : Int)) := by omega
  simp -implicitDefEqProofs [sc_l_FnExactHoleCycle, F_l_eqComplex, F_l_szComplex, F_l_toComplex, F_l_eqIntS, F_l_heldIntS, G_l_markComplex, G_l_markIntS, ren0, hFS, hFI, e, hl3, hl7, hl8, hm0, hk0, hr0, hh0, hn0]
  try omega
end Go.Proofs.Ytncnohompmcddaa
