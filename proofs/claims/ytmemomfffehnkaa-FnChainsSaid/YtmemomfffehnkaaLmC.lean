import Derived.Test.YtmemomfffehnkaaLmB
namespace Go.Proofs.Ytmemomfffehnkaa
open Go Go.RowKit
set_option maxRecDepth 1000000
set_option linter.unusedSimpArgs false
set_option linter.unusedVariables false
set_option maxHeartbeats 1000000
def sc_s_DrawFillChain : SC := (.seq (.reg [⟨(some 2), none, (.new [(.int .i64 0), .nil])⟩, ⟨(some 3), none, (.mov (.c (.int .i64 0)))⟩, ⟨(some 4), none, (.mov (.c (.int .i64 0)))⟩, ⟨(some 5), none, (.mov (.c .nil))⟩]) (.seq (.reg [⟨(some 11), none, (.mov (.t 0))⟩, ⟨(some 12), none, (.call 117 [(.t 11)])⟩, ⟨(some 10), none, (.mov (.t 12))⟩, ⟨(some 13), none, (.ext 0 (.t 10))⟩, ⟨(some 14), none, (.ext 1 (.t 10))⟩, ⟨(some 15), none, (.ext 2 (.t 10))⟩, ⟨(some 16), none, (.ext 3 (.t 10))⟩, ⟨(some 6), none, (.new [(.int .i64 0), .nil])⟩, ⟨none, none, (.st 2 (.t 6) (.t 13))⟩, ⟨(some 7), none, (.mov (.t 14))⟩, ⟨(some 8), none, (.mov (.t 15))⟩, ⟨(some 9), none, (.mov (.t 16))⟩]) (.seq (.reg [⟨(some 17), none, (.ld (some 2) .undef (.t 6))⟩, ⟨(some 18), none, (.mov (.t 7))⟩, ⟨(some 19), none, (.mov (.t 8))⟩, ⟨(some 20), none, (.mov (.t 9))⟩, ⟨none, none, (.st 2 (.t 2) (.t 17))⟩, ⟨(some 3), none, (.mov (.t 18))⟩, ⟨(some 4), none, (.mov (.t 19))⟩, ⟨(some 5), none, (.mov (.t 20))⟩]) .ret)))
theorem code_s_DrawFillChain : fnCode Try.prog [] 11 = some (21, sc_s_DrawFillChain, [(2, (some 2)), (3, none), (4, none), (5, none)]) := by kernel_rfl
noncomputable def F_s_DrawFillChain : List V → Option V := F_s_l16Case
theorem fn_s_DrawFillChain : FnOk Try.prog 11 F_s_DrawFillChain := by
  have env := (envNil_ok (P := Try.prog)).add fn_s_l16Case
  refine fn_ok code_s_DrawFillChain mixed env ?_
  intro args r h hb
  obtain ⟨_, b, rfl, h1, h4⟩ := F1_inv h
  obtain ⟨hw, rfl⟩ := dBy_inv h1
  cases h4
  clear h hb h1
  refine ⟨by simp, fun w0 U0 L0 N0 => ?_⟩
  have hF : F_s_l16Case [.list 1 (u8s b)] = some (.tup [.agg [.int .i64 (bentN (newCur b)).1.1, .own 1 (ints (bentN (newCur b)).1.2)], .int .i64 (1 + (belowN (newCur b) 3).1), .int .i64 (pickN (bentN (newCur b)).2 qLs),
    .own 1 (ints (chainN (bentN (newCur b)).1.1 (bentN (newCur b)).1.2 (1 + (belowN (newCur b) 3).1) (pickN (bentN (newCur b)).2 qLs) (belowN (newCur b) 3).2))]) := by
    simp only [F_s_l16Case, F1_mk, dBy_list hw, Option.bind_some]
  generalize chainN (bentN (newCur b)).1.1 (bentN (newCur b)).1.2 (1 + (belowN (newCur b) 3).1) (pickN (bentN (newCur b)).2 qLs) (belowN (newCur b) 3).2 = L at *
  generalize pickN (bentN (newCur b)).2 qLs = p at *
  generalize bentN (newCur b) = x at *
  generalize belowN (newCur b) 3 = y at *
  simp -implicitDefEqProofs [sc_s_DrawFillChain, hF]
end Go.Proofs.Ytmemomfffehnkaa
