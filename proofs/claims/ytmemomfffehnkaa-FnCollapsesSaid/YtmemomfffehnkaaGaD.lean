import Derived.Test.YtmemomfffehnkaaKI
import Derived.Test.YtmemomfffehnkaaIsF
namespace Go.Proofs.Ytmemomfffehnkaa
open Go Go.RowKit
set_option maxRecDepth 1000000
set_option linter.unusedSimpArgs false
set_option linter.unusedVariables false
set_option maxHeartbeats 1000000
def sc_i_HasFace : SC := (.seq (.reg [⟨(some 2), none, (.box (.t 0))⟩, ⟨(some 4), none, (.mov (.c (.bool false)))⟩]) (.seq (.seq (.reg [⟨(some 5), none, (.ld (some 2) .undef (.t 2))⟩, ⟨(some 6), none, (.call 130 [(.t 5)])⟩, ⟨(some 7), none, (.un .not (.t 6))⟩, ⟨(some 8), none, (.mov (.t 7))⟩, ⟨(some 9), (some (8, false)), (.fad 0 (.t 2))⟩, ⟨(some 10), (some (8, false)), (.ld none (.int .i64 0) (.t 9))⟩, ⟨(some 11), (some (8, false)), (.mov (.t 1))⟩, ⟨(some 12), (some (8, false)), (.call 180 [(.t 10), (.t 11)])⟩, ⟨(some 13), (some (8, false)), (.un .not (.t 12))⟩, ⟨(some 14), none, (.pick (.t 8) (.c (.bool true)) (.t 13))⟩]) (.cond (.t 14) (.seq (.reg [⟨(some 4), none, (.mov (.c (.bool false)))⟩]) .ret) .skip)) (.seq (.reg [⟨(some 15), none, (.ld (some 2) .undef (.t 2))⟩, ⟨(some 16), none, (.call 151 [(.t 15)])⟩, ⟨(some 17), none, (.mov (.t 1))⟩, ⟨(some 18), none, (.call 182 [(.t 16), (.t 17)])⟩, ⟨(some 4), none, (.mov (.t 18))⟩]) .ret)))
theorem code_i_HasFace : fnCode Try.prog [] 173 = some (19, sc_i_HasFace, [(4, none)]) := by kernel_rfl
theorem fn_i_HasFace : FnOk Try.prog 173 F_s_HasFace := by
  have env := ((((envNil_ok (P := Try.prog)).add fn_i_IsComplex).add fn_i_IsSet).add fn_i_facesIn).add fn_i_hasSet
  refine fn_ok code_i_HasFace mixed env ?_
  intro args r h hb
  obtain ⟨_, _, ⟨n, l⟩, s, rfl, h1, h2, h4⟩ := F2_inv h
  cases dC_inv h1
  cases dI_inv h2
  cases h4
  refine ⟨by simp, fun w0 U0 L0 N0 => ?_⟩
  generalize hv : hasFaceB n l s = v
  cases e0 : cplxB n l with
  | false =>
    have hv1 : v = false := hv ▸ dec_false fun h => by simp [cplxB_iff.2 h.1] at e0
    simp -implicitDefEqProofs [sc_i_HasFace, F_s_IsComplex, e0, hv1]
  | true =>
  have hc := cplxB_iff.1 e0
  have hS := cplx_isS hc
  cases e1 : isSet n s with
  | false =>
    have hv1 : v = false := hv ▸ dec_false fun h => by simp [isSet_face' hc h.2.1 h.2.2] at e1
    simp -implicitDefEqProofs [sc_i_HasFace, F_s_IsComplex, F_i_IsSet, e0, e1, hv1]
  | true =>
  have hs := (show isS s from isSet_pos e1)
  have hg := hasG_fam (p := faceS l) hs
  have hv1 : dec (faceS l s) = v := by
    rw [← hv, Bool.eq_iff_iff, dec_iff]
    exact ⟨fun h => dec_true ⟨hc, hs, h⟩, fun h => (dec_iff.1 h).2.2⟩
  rw [hv1] at hg
  simp -implicitDefEqProofs [sc_i_HasFace, F_s_IsComplex, F_i_IsSet, F_i_facesIn, F_i_hasSet, e0, e1, hS, hg]
end Go.Proofs.Ytmemomfffehnkaa
