import Derived.Test.YtncnohompmcddaaHbE
namespace Go.Proofs.Ytncnohompmcddaa
open Go Go.RowKit
set_option maxRecDepth 1000000
set_option linter.unusedSimpArgs false
set_option linter.unusedVariables false
set_option maxHeartbeats 1000000
def sc_i_IsCohenMacaulay : SC := (.seq (.reg [⟨(some 2), none, (.box (.t 0))⟩, ⟨(some 4), none, (.mov (.c (.bool false)))⟩]) (.seq (.reg [⟨(some 5), none, (.ld (some 2) .undef (.t 2))⟩, ⟨(some 6), none, (.call 38 [(.t 5)])⟩, ⟨(some 7), none, (.mov (.t 6))⟩, ⟨(some 8), (some (7, true)), (.mov (.t 1))⟩, ⟨(some 9), (some (7, true)), (.call 39 [(.t 8)])⟩, ⟨(some 10), none, (.pick (.t 7) (.t 9) (.c (.bool false)))⟩, ⟨(some 11), none, (.mov (.t 10))⟩, ⟨(some 12), (some (11, true)), (.ld (some 2) .undef (.t 2))⟩, ⟨(some 13), (some (11, true)), (.call 41 [(.t 12)])⟩, ⟨(some 14), (some (11, true)), (.mov (.t 1))⟩, ⟨(some 15), (some (11, true)), (.call 48 [(.t 13), (.t 14)])⟩, ⟨(some 16), none, (.pick (.t 11) (.t 15) (.c (.bool false)))⟩, ⟨(some 4), none, (.mov (.t 16))⟩]) .ret))
theorem code_i_IsCohenMacaulay : fnCode Try.prog [] 18 = some (17, sc_i_IsCohenMacaulay, [(4, none)]) := by kernel_rfl
theorem fn_i_IsCohenMacaulay : FnOk Try.prog 18 F_s_IsCohenMacaulay := by
  have env := ((((envNil_ok (P := Try.prog)).add fn_i_IsComplex).add fn_i_IsFieldPrime).add fn_i_facesIn).add fn_i_isFullDepth
  refine fn_ok code_i_IsCohenMacaulay mixed env ?_
  intro args r h hb
  obtain ⟨_, _, ⟨n, l⟩, p, rfl, h1, h2, h4⟩ := F2_inv h
  cases dC_inv h1
  cases dI_inv h2
  cases h4
  clear h
  refine ⟨by simp, fun w0 U0 L0 N0 => ?_⟩
  clear hb
  simp only
  generalize hv : dec (cmP n l p) = v
  cases e0 : cplxB n l with
  | false =>
    have hv1 : v = false := hv ▸ dec_false fun h => by simp [cplxB_iff.2 h.1] at e0
    simp -implicitDefEqProofs [sc_i_IsCohenMacaulay, F_s_IsComplex, e0, hv1]
  | true =>
  have hc := cplxB_iff.1 e0
  have hS := cplx_isS hc
  by_cases hp : fpP p
  rotate_left
  · have hv1 : v = false := hv ▸ dec_false fun h => hp h.2.1
    have hd := dec_false hp
    simp -implicitDefEqProofs [sc_i_IsCohenMacaulay, F_s_IsComplex, F_s_IsFieldPrime, e0, hd, hv1]
  have hd := dec_true hp
  have hv1 : v = dec (fdP p (faceS l)) := by
    rw [← hv, Bool.eq_iff_iff, dec_iff, dec_iff]
    exact ⟨fun h => h.2.2, fun h => ⟨hc, hp, h⟩⟩
  have hg := fdG_fam (faceS l) hp
  generalize dec (fdP p (faceS l)) = w at *
  simp -implicitDefEqProofs [sc_i_IsCohenMacaulay, F_s_IsComplex, F_s_IsFieldPrime, F_i_facesIn, F_i_isFullDepth, e0, hd, hS, hg, hv1]
end Go.Proofs.Ytncnohompmcddaa
