import Derived.Test.YtmemomfffehnkaaPqB
namespace Go.Proofs.Ytmemomfffehnkaa
open Go Go.RowKit
set_option maxRecDepth 1000000
set_option linter.unusedSimpArgs false
set_option linter.unusedVariables false
set_option maxHeartbeats 1000000
def sc_s_DrawIsAcyclic : SC := (.seq (.reg [⟨(some 2), none, (.new [(.int .i64 0), .nil])⟩, ⟨(some 3), none, (.mov (.c .nil))⟩]) (.seq (.reg [⟨(some 7), none, (.mov (.t 0))⟩, ⟨(some 8), none, (.call 186 [(.t 7)])⟩, ⟨(some 6), none, (.mov (.t 8))⟩, ⟨(some 9), none, (.ext 0 (.t 6))⟩, ⟨(some 10), none, (.ext 1 (.t 6))⟩, ⟨(some 4), none, (.new [(.int .i64 0), .nil])⟩, ⟨none, none, (.st 2 (.t 4) (.t 9))⟩, ⟨(some 5), none, (.mov (.t 10))⟩]) (.seq (.reg [⟨(some 11), none, (.ld (some 2) .undef (.t 4))⟩, ⟨(some 12), none, (.mov (.t 5))⟩, ⟨none, none, (.st 2 (.t 2) (.t 11))⟩, ⟨(some 3), none, (.mov (.t 12))⟩]) .ret)))
theorem code_s_DrawIsAcyclic : fnCode Try.prog [] 80 = some (13, sc_s_DrawIsAcyclic, [(2, (some 2)), (3, none)]) := by kernel_rfl
noncomputable def F_s_DrawIsAcyclic : List V → Option V := F_s_l18Case
theorem fn_s_DrawIsAcyclic : FnOk Try.prog 80 F_s_DrawIsAcyclic := by
  have env := (envNil_ok (P := Try.prog)).add fn_s_l18Case
  refine fn_ok code_s_DrawIsAcyclic mixed env ?_
  intro args r h hb
  obtain ⟨_, b, rfl, h1, h4⟩ := F1_inv h
  obtain ⟨hw, rfl⟩ := dBy_inv h1
  cases h4
  clear h hb h1
  refine ⟨by simp, fun w0 U0 L0 N0 => ?_⟩
  have hF : F_s_l18Case [.list 1 (u8s b)] = some (.tup [.agg [.int .i64 (bentN (newCur b)).1.1, .own 1 (ints (bentN (newCur b)).1.2)], .own 2 (prs (case18 (bentN (newCur b)).1.1 (bentN (newCur b)).1.2 (bentN (newCur b)).2))]) := by
    simp only [F_s_l18Case, F1_mk, dBy_list hw, Option.bind_some]
  generalize case18 (bentN (newCur b)).1.1 (bentN (newCur b)).1.2 (bentN (newCur b)).2 = L at *
  generalize bentN (newCur b) = x at *
  simp -implicitDefEqProofs [sc_s_DrawIsAcyclic, hF]
def sc_s_DrawPointPairing : SC := (.seq (.reg [⟨(some 2), none, (.new [(.int .i64 0), .nil])⟩]) (.seq (.reg [⟨(some 3), none, (.mov (.t 0))⟩, ⟨(some 4), none, (.call 128 [(.t 3)])⟩, ⟨(some 5), none, (.call 144 [(.t 4)])⟩, ⟨none, none, (.st 2 (.t 2) (.t 5))⟩]) .ret))
theorem code_s_DrawPointPairing : fnCode Try.prog [144] 81 = some (6, sc_s_DrawPointPairing, [(2, (some 2))]) := by kernel_rfl
noncomputable def F_s_DrawPointPairing : List V → Option V := F1 dBy fun b => some (.agg [.int .i64 (bentN (newCur b)).1.1, .own 1 (ints (bentN (newCur b)).1.2)])
theorem fn_s_DrawPointPairing : FnOk Try.prog 81 F_s_DrawPointPairing := by
  have env := ((envNil_ok (P := Try.prog)).add fn_s_l1New).addl ln_s_l3Bent
  refine fn_ok code_s_DrawPointPairing mixed env ?_
  intro args r h hb
  obtain ⟨_, b, rfl, h1, h4⟩ := F1_inv h
  obtain ⟨hw, rfl⟩ := dBy_inv h1
  cases h4
  clear h hb h1
  refine ⟨by simp, fun w0 U0 L0 N0 => ?_⟩
  have hN : F_s_l1New [.list 1 (u8s b)] = some (.opt (curC (newCur b))) := by
    simp only [F_s_l1New, F1_mk, dBy_list hw, Option.bind_some]
  have g0 := G_bent (newCur_wf hw)
  generalize bentN (newCur b) = x at *
  generalize newCur b = c0 at *
  simp -implicitDefEqProofs [sc_s_DrawPointPairing, ren0, hN, g0]
end Go.Proofs.Ytmemomfffehnkaa
