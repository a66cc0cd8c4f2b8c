import Derived.Test.YtmemomfffehnkaaGaF
namespace Go.Proofs.Ytmemomfffehnkaa
open Go Go.RowKit
set_option maxRecDepth 1000000
set_option linter.unusedSimpArgs false
set_option linter.unusedVariables false
set_option maxHeartbeats 1000000
def sc_i_FreeFaces : SC := (.seq (.reg [⟨(some 1), none, (.box (.t 0))⟩, ⟨(some 2), none, (.mov (.c .nil))⟩]) (.seq (.seq (.reg [⟨(some 3), none, (.ld (some 2) .undef (.t 1))⟩, ⟨(some 4), none, (.call 130 [(.t 3)])⟩, ⟨(some 5), none, (.un .not (.t 4))⟩]) (.cond (.t 5) (.seq (.reg [⟨(some 2), none, (.mov (.c .nil))⟩]) .ret) .skip)) (.seq (.reg [⟨(some 6), none, (.ld (some 2) .undef (.t 1))⟩, ⟨(some 7), none, (.call 151 [(.t 6)])⟩, ⟨(some 8), none, (.call 177 [(.t 7)])⟩, ⟨(some 2), none, (.mov (.t 8))⟩]) .ret)))
theorem code_i_FreeFaces : fnCode Try.prog [] 76 = some (9, sc_i_FreeFaces, [(2, none)]) := by kernel_rfl
theorem fn_i_FreeFaces : FnOk Try.prog 76 F_s_FreeFaces := by
  have env := (((envNil_ok (P := Try.prog)).add fn_i_IsComplex).add fn_i_facesIn).add fn_i_freeIn
  refine fn_ok code_i_FreeFaces mixed env ?_
  intro args r h hb
  obtain ⟨_, ⟨n, l⟩, rfl, h1, h4⟩ := F1_inv h
  cases dC_inv h1
  cases h4
  refine ⟨by simp, fun w0 U0 L0 N0 => ?_⟩
  cases e0 : cplxB n l with
  | false =>
    have e := freeL_not (n := n) (l := l) fun h => by simp [cplxB_iff.2 h] at e0
    simp -implicitDefEqProofs [sc_i_FreeFaces, F_s_IsComplex, e0, e]
  | true =>
    have hc := cplxB_iff.1 e0
    have hS := cplx_isS hc
    have hg := freeG_fam (faceS l)
    rw [← freeL_of hc] at hg
    simp -implicitDefEqProofs [sc_i_FreeFaces, F_s_IsComplex, F_i_facesIn, F_i_freeIn, e0, hS, hg]
end Go.Proofs.Ytmemomfffehnkaa
