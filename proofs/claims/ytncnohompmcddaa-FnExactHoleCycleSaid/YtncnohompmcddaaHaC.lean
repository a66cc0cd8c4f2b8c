import Derived.Test.YtncnohompmcddaaHaA
import Derived.Test.YtncnohompmcddaaGdQ
namespace Go.Proofs.Ytncnohompmcddaa
open Go Go.RowKit
set_option maxRecDepth 1000000
set_option linter.unusedSimpArgs false
set_option linter.unusedVariables false
set_option maxHeartbeats 1000000
def sc_s_l13Rank : SC := (.seq (.reg [⟨(some 4), none, (.mov (.c (.int .i64 0)))⟩]) (.seq (.reg [⟨(some 8), none, (.mov (.t 0))⟩, ⟨(some 9), none, (.mov (.t 1))⟩, ⟨(some 10), none, (.call 52 [(.t 8), (.t 9)])⟩, ⟨(some 7), none, (.mov (.t 10))⟩, ⟨(some 11), none, (.ext 0 (.t 7))⟩, ⟨(some 12), none, (.ext 1 (.t 7))⟩, ⟨(some 5), none, (.mov (.t 11))⟩, ⟨(some 6), none, (.mov (.t 12))⟩]) (.seq (.reg [⟨(some 13), none, (.mov (.t 6))⟩, ⟨(some 14), none, (.len (.t 13))⟩, ⟨(some 4), none, (.mov (.t 14))⟩]) .ret)))
theorem code_s_l13Rank : fnCode Try.prog [] 74 = some (15, sc_s_l13Rank, [(4, none)]) := by kernel_rfl
theorem fn_s_l13Rank : FnOk Try.prog 74 F_i_rankOf := by
  have env := (envNil_ok (P := Try.prog)).add fn_s_l13Reduce
  refine fn_ok code_s_l13Rank mixed env ?_
  intro args r h hb
  obtain ⟨_, _, M, p, rfl, h1, h2, h4⟩ := F2_inv h
  cases dLL_inv h1
  cases dI_inv h2
  simp only [Option.ite_none_right_eq_some, Option.some.injEq] at h4
  obtain ⟨⟨hp, hrec⟩, rfl⟩ := h4
  clear h
  refine ⟨by simp, fun w0 U0 L0 N0 => ?_⟩
  clear hb
  have hF : F_s_l13Reduce [.list 1 (rowsL M), .int .i64 p] = some (.tup [.own 1 (rowsV (redS p (modM p M) (atR M 0).length).1), .own 1 (ints (redS p (modM p M) (atR M 0).length).2)]) := by
    simp only [F_s_l13Reduce, F2_mk, dLL_list, dI_int, Option.bind_some]
    rw [if_pos ⟨hp, hrec⟩]
  have hr : rnk p M = (redS p (modM p M) (atR M 0).length).2.length := rfl
  rw [hr]
  generalize redS p (modM p M) (atR M 0).length = x at *
  simp -implicitDefEqProofs [sc_s_l13Rank, hF]
end Go.Proofs.Ytncnohompmcddaa
