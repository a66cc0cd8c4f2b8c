import Derived.Test.YtmemomfffehnkaaJbA
namespace Go.Proofs.Ytmemomfffehnkaa
open Go Go.RowKit
set_option maxRecDepth 1000000
set_option linter.unusedSimpArgs false
set_option linter.unusedVariables false
set_option maxHeartbeats 1000000
def sc_l_sameComplex : SC := (.seq (.reg [⟨(some 2), none, (.box (.t 0))⟩, ⟨(some 3), none, (.box (.t 1))⟩, ⟨(some 4), none, (.mov (.c (.bool false)))⟩]) (.seq (.reg [⟨(some 5), none, (.fad 0 (.t 2))⟩, ⟨(some 6), none, (.ld none (.int .i64 0) (.t 5))⟩, ⟨(some 7), none, (.fad 0 (.t 3))⟩, ⟨(some 8), none, (.ld none (.int .i64 0) (.t 7))⟩, ⟨(some 9), none, (.bin false .eql (.t 6) (.t 8))⟩, ⟨(some 10), none, (.mov (.t 9))⟩, ⟨(some 11), (some (10, true)), (.fad 1 (.t 2))⟩, ⟨(some 12), (some (10, true)), (.ld none .nil (.t 11))⟩, ⟨(some 13), (some (10, true)), (.fad 1 (.t 3))⟩, ⟨(some 14), (some (10, true)), (.ld none .nil (.t 13))⟩, ⟨(some 15), (some (10, true)), (.call 19 [(.t 12), (.t 14)])⟩, ⟨(some 16), none, (.pick (.t 10) (.t 15) (.c (.bool false)))⟩, ⟨(some 4), none, (.mov (.t 16))⟩]) .ret))
theorem code_l_sameComplex : fnCode Try.prog [] 71 = some (17, sc_l_sameComplex, [(4, none)]) := by kernel_rfl
noncomputable def F_l_sameComplex : List V → Option V := F2 dC dC fun a b => some (.bool (dec (a = b)))
theorem fn_l_sameComplex : FnOk Try.prog 71 F_l_sameComplex := by
  have env := (envNil_ok (P := Try.prog)).add fn_l_sameInts
  refine fn_ok code_l_sameComplex mixed env ?_
  intro args r h hb
  obtain ⟨_, _, ⟨n, l⟩, ⟨m, k⟩, rfl, h1, h2, h4⟩ := F2_inv h
  cases dC_inv h1
  cases dC_inv h2
  cases h4
  clear h
  refine ⟨by simp, fun w0 U0 L0 N0 => ?_⟩
  clear hb
  have hF : F_l_sameInts [.list 1 (ints l), .list 1 (ints k)] = some (.bool (dec (l = k))) := by
    simp only [F_l_sameInts, F2_mk, dL_list, Option.bind_some]
  generalize hv : dec ((n, l) = (m, k)) = v
  by_cases e : n = m
  · have hv1 : dec (l = k) = v := by
      rw [← hv, Bool.eq_iff_iff, dec_iff, dec_iff]
      exact ⟨fun h => by rw [h, e], fun h => by cases h; rfl⟩
    rw [hv1] at hF
    simp -implicitDefEqProofs [sc_l_sameComplex, e, hF]
  · have hv1 : v = false := hv ▸ dec_false fun h => by cases h; exact e rfl
    simp -implicitDefEqProofs [sc_l_sameComplex, e, hv1]
end Go.Proofs.Ytmemomfffehnkaa
