import Derived.Test.YtmemomfffehnkaaKP
namespace Go.Proofs.Ytmemomfffehnkaa
open Go Go.RowKit
set_option maxRecDepth 1000000
set_option linter.unusedSimpArgs false
set_option linter.unusedVariables false
set_option maxHeartbeats 1000000
def sc_s_l3Copy : SC := (.seq (.reg [⟨(some 1), none, (.box (.t 0))⟩, ⟨(some 2), none, (.new [(.int .i64 0), .nil])⟩]) (.seq (.treg (.fst ⟨(some 3), none, (.fad 0 (.t 1))⟩ true (.fst ⟨(some 6), none, (.fad 1 (.t 1))⟩ true (.alt ⟨(some 4), none, (.ld none (.int .i64 0) (.t 3))⟩ false (.alt ⟨(some 5), none, (.mks 0 1 [] [])⟩ true (.fst ⟨(some 7), none, (.ld none .nil (.t 6))⟩ false (.alt ⟨(some 8), none, (.app 1 8 (.t 5) (.t 7))⟩ true (.fst ⟨(some 9), none, (.agg [(.int .i64 0), .nil] [(0, (1, (.t 4))), (1, (1, (.t 8)))])⟩ false (.alt ⟨none, none, (.st 2 (.t 2) (.t 9))⟩ true .done .stop)) .stop)) (.alt ⟨(some 7), none, (.ld none .nil (.t 6))⟩ false (.alt ⟨(some 5), none, (.mks 0 1 [] [])⟩ true (.alt ⟨(some 8), none, (.app 1 8 (.t 5) (.t 7))⟩ true (.fst ⟨(some 9), none, (.agg [(.int .i64 0), .nil] [(0, (1, (.t 4))), (1, (1, (.t 8)))])⟩ false (.alt ⟨none, none, (.st 2 (.t 2) (.t 9))⟩ true .done .stop)) .stop) .stop) .stop)) (.alt ⟨(some 5), none, (.mks 0 1 [] [])⟩ true (.fst ⟨(some 7), none, (.ld none .nil (.t 6))⟩ false (.alt ⟨(some 4), none, (.ld none (.int .i64 0) (.t 3))⟩ false (.alt ⟨(some 8), none, (.app 1 8 (.t 5) (.t 7))⟩ true (.fst ⟨(some 9), none, (.agg [(.int .i64 0), .nil] [(0, (1, (.t 4))), (1, (1, (.t 8)))])⟩ false (.alt ⟨none, none, (.st 2 (.t 2) (.t 9))⟩ true .done .stop)) .stop) (.alt ⟨(some 8), none, (.app 1 8 (.t 5) (.t 7))⟩ true (.fst ⟨(some 4), none, (.ld none (.int .i64 0) (.t 3))⟩ false (.fst ⟨(some 9), none, (.agg [(.int .i64 0), .nil] [(0, (1, (.t 4))), (1, (1, (.t 8)))])⟩ false (.alt ⟨none, none, (.st 2 (.t 2) (.t 9))⟩ true .done .stop))) .stop))) (.alt ⟨(some 7), none, (.ld none .nil (.t 6))⟩ false (.alt ⟨(some 4), none, (.ld none (.int .i64 0) (.t 3))⟩ false (.alt ⟨(some 5), none, (.mks 0 1 [] [])⟩ true (.alt ⟨(some 8), none, (.app 1 8 (.t 5) (.t 7))⟩ true (.fst ⟨(some 9), none, (.agg [(.int .i64 0), .nil] [(0, (1, (.t 4))), (1, (1, (.t 8)))])⟩ false (.alt ⟨none, none, (.st 2 (.t 2) (.t 9))⟩ true .done .stop)) .stop) .stop) (.alt ⟨(some 5), none, (.mks 0 1 [] [])⟩ true (.alt ⟨(some 4), none, (.ld none (.int .i64 0) (.t 3))⟩ false (.alt ⟨(some 8), none, (.app 1 8 (.t 5) (.t 7))⟩ true (.fst ⟨(some 9), none, (.agg [(.int .i64 0), .nil] [(0, (1, (.t 4))), (1, (1, (.t 8)))])⟩ false (.alt ⟨none, none, (.st 2 (.t 2) (.t 9))⟩ true .done .stop)) .stop) (.alt ⟨(some 8), none, (.app 1 8 (.t 5) (.t 7))⟩ true (.fst ⟨(some 4), none, (.ld none (.int .i64 0) (.t 3))⟩ false (.fst ⟨(some 9), none, (.agg [(.int .i64 0), .nil] [(0, (1, (.t 4))), (1, (1, (.t 8)))])⟩ false (.alt ⟨none, none, (.st 2 (.t 2) (.t 9))⟩ true .done .stop))) .stop)) .stop)) .stop)))))) .ret))
theorem code_s_l3Copy : fnCode Try.prog [] 178 = some (10, sc_s_l3Copy, [(2, (some 2))]) := by kernel_rfl
noncomputable def F_s_l3Copy : List V → Option V := F1 dC fun c => @ite _ (c.2.length ≤ 1048576) (Classical.propDecidable _) (some (.agg [.int .i64 c.1, .own 1 (ints c.2)])) none
theorem fn_s_l3Copy : FnOk Try.prog 178 F_s_l3Copy := by
  refine fn_ok code_s_l3Copy mixed envNil_ok ?_
  intro args r h hb
  obtain ⟨_, ⟨n, l⟩, rfl, h1, h4⟩ := F1_inv h
  cases dC_inv h1
  simp only [Option.ite_none_right_eq_some, Option.some.injEq] at h4
  obtain ⟨hlen, rfl⟩ := h4
  refine ⟨by simp, fun w0 U0 L0 N0 => ?_⟩
  clear h hb
  have hl2 : l.length * 8 ≤ 140737488355328 := by omega
  simp -implicitDefEqProofs [sc_s_l3Copy, freeOk, hlen, hl2]
end Go.Proofs.Ytmemomfffehnkaa
