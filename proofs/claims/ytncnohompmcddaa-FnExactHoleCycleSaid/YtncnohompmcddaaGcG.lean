import Derived.Test.YtncnohompmcddaaGcD
import Derived.Test.YtncnohompmcddaaGcE
namespace Go.Proofs.Ytncnohompmcddaa
open Go Go.RowKit
set_option maxRecDepth 1000000
set_option linter.unusedSimpArgs false
set_option linter.unusedVariables false
set_option maxHeartbeats 1000000
def sc_i_IsChain : SC := (.seq (.reg [⟨(some 4), none, (.box (.t 0))⟩, ⟨(some 8), none, (.mov (.c (.bool false)))⟩]) (.seq (.seq (.reg [⟨(some 9), none, (.ld (some 2) .undef (.t 4))⟩, ⟨(some 10), none, (.call 38 [(.t 9)])⟩, ⟨(some 11), none, (.un .not (.t 10))⟩, ⟨(some 12), none, (.mov (.t 11))⟩, ⟨(some 13), (some (12, false)), (.mov (.t 1))⟩, ⟨(some 14), (some (12, false)), (.bin false .lss (.t 13) (.c (.int .i64 1)))⟩, ⟨(some 15), none, (.pick (.t 12) (.c (.bool true)) (.t 14))⟩, ⟨(some 16), none, (.mov (.t 15))⟩, ⟨(some 17), (some (16, false)), (.mov (.t 1))⟩, ⟨(some 18), (some (16, false)), (.bin false .gtr (.t 17) (.c (.int .i64 6)))⟩, ⟨(some 19), none, (.pick (.t 16) (.c (.bool true)) (.t 18))⟩, ⟨(some 20), none, (.mov (.t 19))⟩, ⟨(some 21), (some (20, false)), (.mov (.t 2))⟩, ⟨(some 22), (some (20, false)), (.call 39 [(.t 21)])⟩, ⟨(some 23), (some (20, false)), (.un .not (.t 22))⟩, ⟨(some 24), none, (.pick (.t 20) (.c (.bool true)) (.t 23))⟩]) (.cond (.t 24) (.seq (.reg [⟨(some 8), none, (.mov (.c (.bool false)))⟩]) .ret) .skip)) (.seq (.reg [⟨(some 25), none, (.ld (some 2) .undef (.t 4))⟩, ⟨(some 26), none, (.mov (.t 1))⟩, ⟨(some 27), none, (.call 57 [(.t 25), (.t 26)])⟩, ⟨(some 28), none, (.len (.t 27))⟩, ⟨(some 29), none, (.mov (.t 2))⟩, ⟨(some 30), none, (.mov (.t 3))⟩, ⟨(some 31), none, (.call 108 [(.t 28), (.t 29), (.t 30)])⟩, ⟨(some 8), none, (.mov (.t 31))⟩]) .ret)))
theorem code_i_IsChain : fnCode Try.prog [] 92 = some (32, sc_i_IsChain, [(8, none)]) := by kernel_rfl
theorem fn_i_IsChain : FnOk Try.prog 92 F_s_IsChain := by
  have env := ((((envNil_ok (P := Try.prog)).add fn_i_IsComplex).add fn_i_IsFieldPrime).add fn_i_FacesOfSize).add fn_i_isChainOf
  refine fn_ok code_i_IsChain mixed env ?_
  intro args r h hb
  obtain ⟨_, _, _, _, ⟨n, l⟩, k, p, x, rfl, h1, h2, h3, h5, h4⟩ := F4_inv h
  cases dC_inv h1
  cases dI_inv h2
  cases dI_inv h3
  cases dL_inv h5
  cases h4
  clear h
  refine ⟨by simp, fun w0 U0 L0 N0 => ?_⟩
  clear hb
  generalize hv : dec (chnP n l k p x) = v
  have hfl : (fosL n l k).length ≤ 64 := setsOf_len _
  unfold chnP at hv
  cases e0 : cplxB n l with
  | false =>
    have hv1 : v = false := hv ▸ dec_false fun h => by simp [cplxB_iff.2 h.1] at e0
    simp -implicitDefEqProofs [sc_i_IsChain, F_s_IsComplex, e0, hv1]
  | true =>
  by_cases g1 : k < 1
  · have hv1 : v = false := hv ▸ dec_false fun h => by have := h.2.1; omega
    simp -implicitDefEqProofs [sc_i_IsChain, F_s_IsComplex, e0, g1, hv1]
  by_cases g2 : 6 < k
  · have hv1 : v = false := hv ▸ dec_false fun h => by have := h.2.2.1; omega
    simp -implicitDefEqProofs [sc_i_IsChain, F_s_IsComplex, e0, g1, g2, hv1]
  by_cases g3 : fpP p
  rotate_left
  · have hv1 : v = false := hv ▸ dec_false fun h => g3 h.2.2.2.1
    have g4 := dec_false g3
    simp -implicitDefEqProofs [sc_i_IsChain, F_s_IsComplex, F_s_IsFieldPrime, e0, g1, g2, g4, hv1]
  have g4 := dec_true g3
  have hv1 : dec ((x.length : Int) = ((fosL n l k).length : Nat) ∧ inP p x) = v := by
    rw [← hv, Bool.eq_iff_iff, dec_iff, dec_iff]
    exact ⟨fun h => ⟨cplxB_iff.1 e0, by omega, by omega, g3, by have := h.1; omega, h.2⟩, fun h => ⟨by have := h.2.2.2.2.1; omega, h.2.2.2.2.2⟩⟩
  simp -implicitDefEqProofs [sc_i_IsChain, F_s_IsComplex, F_s_IsFieldPrime, F_s_FacesOfSize, F_i_isChainOf, e0, g1, g2, g4, hv1]
end Go.Proofs.Ytncnohompmcddaa
