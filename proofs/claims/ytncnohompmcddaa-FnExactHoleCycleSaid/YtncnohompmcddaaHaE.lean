import Derived.Test.YtncnohompmcddaaHaD
import Derived.Test.YtncnohompmcddaaKI
namespace Go.Proofs.Ytncnohompmcddaa
open Go Go.RowKit
set_option maxRecDepth 1000000
set_option linter.unusedSimpArgs false
set_option linter.unusedVariables false
set_option maxHeartbeats 1000000
def sc_i_HolesMod : SC := (.seq (.reg [⟨(some 2), none, (.box (.t 0))⟩, ⟨(some 4), none, (.mov (.c .nil))⟩]) (.seq (.seq (.reg [⟨(some 5), none, (.ld (some 2) .undef (.t 2))⟩, ⟨(some 6), none, (.call 38 [(.t 5)])⟩, ⟨(some 7), none, (.un .not (.t 6))⟩, ⟨(some 8), none, (.mov (.t 7))⟩, ⟨(some 9), (some (8, false)), (.fad 1 (.t 2))⟩, ⟨(some 10), (some (8, false)), (.ld none .nil (.t 9))⟩, ⟨(some 11), (some (8, false)), (.len (.t 10))⟩, ⟨(some 12), (some (8, false)), (.bin false .eql (.t 11) (.c (.int .i64 0)))⟩, ⟨(some 13), none, (.pick (.t 8) (.c (.bool true)) (.t 12))⟩, ⟨(some 14), none, (.mov (.t 13))⟩, ⟨(some 15), (some (14, false)), (.mov (.t 1))⟩, ⟨(some 16), (some (14, false)), (.call 39 [(.t 15)])⟩, ⟨(some 17), (some (14, false)), (.un .not (.t 16))⟩, ⟨(some 18), none, (.pick (.t 14) (.c (.bool true)) (.t 17))⟩]) (.cond (.t 18) (.seq (.reg [⟨(some 4), none, (.mov (.c .nil))⟩]) .ret) .skip)) (.seq (.reg [⟨(some 19), none, (.ld (some 2) .undef (.t 2))⟩, ⟨(some 20), none, (.call 41 [(.t 19)])⟩, ⟨(some 21), none, (.mov (.t 1))⟩, ⟨(some 22), none, (.call 45 [(.t 20), (.t 21)])⟩, ⟨(some 4), none, (.mov (.t 22))⟩]) .ret)))
theorem code_i_HolesMod : fnCode Try.prog [] 71 = some (23, sc_i_HolesMod, [(4, none)]) := by kernel_rfl
theorem holL_nil (p : Int) : holL p (faceS []) = [] := by
  have h := (holL_len p (faceS [])).1
  rw [topZ_nil] at h
  exact List.length_eq_zero_iff.1 h
theorem fn_i_HolesMod : FnOk Try.prog 71 F_s_HolesMod := by
  have env := ((((envNil_ok (P := Try.prog)).add fn_i_IsComplex).add fn_i_IsFieldPrime).add fn_i_facesIn).add fn_i_holesIn
  refine fn_ok code_i_HolesMod mixed env ?_
  intro args r h hb
  obtain ⟨_, _, ⟨n, l⟩, p, rfl, h1, h2, h4⟩ := F2_inv h
  cases dC_inv h1
  cases dI_inv h2
  cases h4
  clear h
  refine ⟨by simp, fun w0 U0 L0 N0 => ?_⟩
  clear hb
  simp only
  cases e0 : cplxB n l with
  | false =>
    have e : hmL n l p = [] := if_neg fun h => by simp [cplxB_iff.2 h.1] at e0
    rw [e]
    simp -implicitDefEqProofs [sc_i_HolesMod, F_s_IsComplex, e0]
  | true =>
  have hc := cplxB_iff.1 e0
  have hS := cplx_isS hc
  by_cases hl : l = []
  · subst hl
    have e : hmL n [] p = [] := by
      unfold hmL
      split
      · exact holL_nil p
      · rfl
    rw [e]
    simp -implicitDefEqProofs [sc_i_HolesMod, F_s_IsComplex, e0]
  by_cases hp : fpP p
  rotate_left
  · have e : hmL n l p = [] := if_neg fun h => hp h.2
    have hd := dec_false hp
    rw [e]
    simp -implicitDefEqProofs [sc_i_HolesMod, F_s_IsComplex, F_s_IsFieldPrime, e0, hl, hd]
  have e : hmL n l p = holL p (faceS l) := if_pos ⟨hc, hp⟩
  have hd := dec_true hp
  have hg := holG_fam (faceS l) hp
  rw [e]
  generalize holL p (faceS l) = R at *
  simp -implicitDefEqProofs [sc_i_HolesMod, F_s_IsComplex, F_s_IsFieldPrime, F_i_facesIn, F_i_holesIn, e0, hl, hd, hS, hg]
end Go.Proofs.Ytncnohompmcddaa
