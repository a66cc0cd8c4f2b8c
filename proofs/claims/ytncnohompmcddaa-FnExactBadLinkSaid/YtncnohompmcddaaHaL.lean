import Derived.Test.YtncnohompmcddaaHaK
import Derived.Test.YtncnohompmcddaaKF
namespace Go.Proofs.Ytncnohompmcddaa
open Go Go.RowKit
set_option maxRecDepth 1000000
set_option linter.unusedSimpArgs false
set_option linter.unusedVariables false
set_option maxHeartbeats 1000000
noncomputable def R0BadLink (n : Int) (l : List Int) (p : Int) : Int := (blX n l p).1
noncomputable def R1BadLink (n : Int) (l : List Int) (p : Int) : Bool := (blX n l p).2
theorem resSBadLink (n : Int) (l : List Int) (p : Int) : F_s_BadLink [.agg [.int .i64 n, .list 1 (ints l)], .int .i64 p] = some (.tup [.int .i64 (R0BadLink n l p), .bool (R1BadLink n l p)]) := by simp [F_s_BadLink, R0BadLink, R1BadLink]
theorem resIBadLink (n : Int) (l : List Int) (p : Int) : F_s_BadLink [.agg [.int .i64 n, .list 1 (ints l)], .int .i64 p] = some (.tup [.int .i64 (R0BadLink n l p), .bool (R1BadLink n l p)]) := resSBadLink n l p
def sc_l_FnExactBadLink : SC := (.seq (.reg [⟨(some 2), none, (.box (.t 0))⟩, ⟨(some 4), none, (.mov (.c (.bool false)))⟩]) (.seq (.reg [⟨(some 5), none, (.mov (.c (.int .i64 1048576)))⟩]) (.seq (.reg [⟨(some 11), none, (.ld (some 2) .undef (.t 2))⟩, ⟨(some 12), none, (.mov (.t 5))⟩, ⟨(some 13), none, (.call 10 [(.t 11), (.t 12)])⟩, ⟨(some 5), none, (.mov (.t 13))⟩]) (.seq (.seq (.reg [⟨(some 14), none, (.mov (.t 5))⟩, ⟨(some 15), none, (.bin false .lss (.t 14) (.c (.int .i64 0)))⟩]) (.cond (.t 15) (.seq (.reg [⟨(some 4), none, (.mov (.c (.bool true)))⟩]) .ret) .skip)) (.seq (.reg [⟨(some 17), none, (.ld (some 2) .undef (.t 2))⟩, ⟨(some 18), none, (.call 12 [(.t 17)])⟩, ⟨(some 19), none, (.mov (.t 1))⟩, ⟨(some 20), none, (.call 15 [(.t 18), (.t 19)])⟩, ⟨(some 16), none, (.mov (.t 20))⟩, ⟨(some 21), none, (.ext 0 (.t 16))⟩, ⟨(some 22), none, (.ext 1 (.t 16))⟩, ⟨(some 6), none, (.mov (.t 21))⟩, ⟨(some 7), none, (.mov (.t 22))⟩]) (.seq (.reg [⟨(some 23), none, (.ld (some 2) .undef (.t 2))⟩, ⟨(some 24), none, (.call 12 [(.t 23)])⟩, ⟨(some 8), none, (.new [(.int .i64 0), .nil])⟩, ⟨none, none, (.st 2 (.t 8) (.t 24))⟩]) (.seq (.reg [⟨(some 26), none, (.ld (some 2) .undef (.t 8))⟩, ⟨(some 27), none, (.mov (.t 1))⟩, ⟨(some 28), none, (.call 16 [(.t 26), (.t 27)])⟩, ⟨(some 25), none, (.mov (.t 28))⟩, ⟨(some 29), none, (.ext 0 (.t 25))⟩, ⟨(some 30), none, (.ext 1 (.t 25))⟩, ⟨(some 9), none, (.mov (.t 29))⟩, ⟨(some 10), none, (.mov (.t 30))⟩]) (.seq (.seq (.reg [⟨(some 31), none, (.mov (.t 9))⟩, ⟨(some 32), none, (.mov (.t 6))⟩, ⟨(some 33), none, (.bin false .neq (.t 31) (.t 32))⟩, ⟨(some 34), none, (.mov (.t 33))⟩, ⟨(some 35), (some (34, false)), (.mov (.t 10))⟩, ⟨(some 36), (some (34, false)), (.mov (.t 7))⟩, ⟨(some 37), (some (34, false)), (.bin true .neq (.t 35) (.t 36))⟩, ⟨(some 38), none, (.pick (.t 34) (.c (.bool true)) (.t 37))⟩]) (.cond (.t 38) (.seq (.reg [⟨(some 4), none, (.mov (.c (.bool false)))⟩]) .ret) .skip)) (.seq (.seq (.dreg [⟨⟨(some 39), none, (.ld (some 2) .undef (.t 8))⟩, false, false⟩, ⟨⟨(some 40), none, (.ld (some 2) .undef (.t 2))⟩, false, false⟩, ⟨⟨(some 41), none, (.call 12 [(.t 40)])⟩, false, false⟩, ⟨⟨(some 42), none, (.call 14 [(.t 39), (.t 41)])⟩, false, false⟩, ⟨⟨(some 43), none, (.un .not (.t 42))⟩, false, false⟩]) (.cond (.t 43) (.seq (.reg [⟨(some 4), none, (.mov (.c (.bool false)))⟩]) .ret) .skip)) (.seq (.reg [⟨(some 4), none, (.mov (.c (.bool true)))⟩]) .ret))))))))))
theorem code_l_FnExactBadLink : fnCode Try.prog [] 4 = some (44, sc_l_FnExactBadLink, [(4, none)]) := by kernel_rfl
open Classical in
noncomputable def F_l_FnExactBadLink : List V → Option V := F2 dC dI fun c0 c1 => if allR c0.2 ∧ inR c1 then some (.bool true) else none
theorem fn_l_FnExactBadLink : FnOk Try.prog 4 F_l_FnExactBadLink := by
  have env := (((((envNil_ok (P := Try.prog)).add fn_s_BadLink).add fn_i_BadLink).add fn_l_eqComplex).add fn_l_szComplex).add fn_l_toComplex
  refine fn_ok code_l_FnExactBadLink mixed env ?_
  intro args r h hb
  obtain ⟨_, _, ⟨n, l⟩, x1, rfl, h1, h2, h9⟩ := F2_inv h
  cases dC_inv h1
  cases dI_inv h2
  simp only [Option.ite_none_right_eq_some, Option.some.injEq] at h9
  obtain ⟨⟨hc0, hc1⟩, rfl⟩ := h9
  refine ⟨by simp, fun w0 U0 L0 N0 => ?_⟩
  clear h hb
  have hFS := resSBadLink n l x1
  have hFI := resIBadLink n l x1
  generalize R0BadLink n l x1 = R0 at *
  generalize R1BadLink n l x1 = R1 at *
  by_cases hl2 : 1048576 < l.length
  · have e : leftOf l.length 1048576 = -1 := by simp only [leftOf]; split <;> omega
    simp -implicitDefEqProofs [sc_l_FnExactBadLink, F_l_szComplex, e]
    try omega
  have e : leftOf l.length 1048576 = 1048576 - l.length := by simp only [leftOf]; split <;> omega
  have hl3 : l.length ≤ 1048576 := by omega
  have hl7 : (l.length : Int) ≤ 1048576 := by omega
  have hl8 : ¬ ((1048576 : Int) - l.length < 0) := by omega
  simp -implicitDefEqProofs [sc_l_FnExactBadLink, F_l_eqComplex, F_l_szComplex, F_l_toComplex, hFS, hFI, e, hl3, hl7, hl8]
  try omega
end Go.Proofs.Ytncnohompmcddaa
