import Derived.Test.YtmemomfffehnkaaGcA
import Derived.Test.YtmemomfffehnkaaGcB
namespace Go.Proofs.Ytmemomfffehnkaa
open Go Go.RowKit
set_option maxRecDepth 1000000
set_option linter.unusedSimpArgs false
set_option linter.unusedVariables false
set_option maxHeartbeats 1000000
def sc_i_FacesOfSize : SC := (.seq (.reg [⟨(some 2), none, (.box (.t 0))⟩, ⟨(some 4), none, (.mov (.c .nil))⟩]) (.seq (.seq (.reg [⟨(some 6), none, (.ld (some 2) .undef (.t 2))⟩, ⟨(some 7), none, (.call 130 [(.t 6)])⟩, ⟨(some 8), none, (.un .not (.t 7))⟩]) (.cond (.t 8) (.seq (.reg [⟨(some 4), none, (.mov (.c .nil))⟩]) .ret) .skip)) (.seq (.reg [⟨(some 9), none, (.ld (some 2) .undef (.t 2))⟩, ⟨(some 10), none, (.call 151 [(.t 9)])⟩, ⟨(some 11), none, (.call 207 [(.t 10)])⟩, ⟨(some 5), none, (.mov (.t 11))⟩]) (.seq (.seq (.reg [⟨(some 12), none, (.mov (.t 1))⟩, ⟨(some 13), none, (.bin false .lss (.t 12) (.c (.int .i64 0)))⟩, ⟨(some 14), none, (.mov (.t 13))⟩, ⟨(some 15), (some (14, false)), (.mov (.t 1))⟩, ⟨(some 16), (some (14, false)), (.mov (.t 5))⟩, ⟨(some 17), (some (14, false)), (.len (.t 16))⟩, ⟨(some 18), (some (14, false)), (.bin false .geq (.t 15) (.t 17))⟩, ⟨(some 19), none, (.pick (.t 14) (.c (.bool true)) (.t 18))⟩]) (.cond (.t 19) (.seq (.reg [⟨(some 4), none, (.mov (.c .nil))⟩]) .ret) .skip)) (.seq (.reg [⟨(some 20), none, (.mov (.t 5))⟩, ⟨(some 21), none, (.mov (.t 1))⟩, ⟨(some 22), none, (.idx 1 (.t 20) (.t 21))⟩, ⟨(some 23), none, (.ld none .nil (.t 22))⟩, ⟨(some 4), none, (.mov (.t 23))⟩]) .ret)))))
theorem code_i_FacesOfSize : fnCode Try.prog [] 118 = some (24, sc_i_FacesOfSize, [(4, none)]) := by kernel_rfl
theorem fos_none {n : Int} {l : List Int} {k : Int} (hc : cplx n l) (h : ¬ (0 ≤ k ∧ k < topZ (faceS l) + 1)) : fosL n l k = [] := by
  rw [fosL_of hc]
  refine setsOf_nil.2 fun s hs hp => h ?_
  have h1 := topZ_ge hs hp.1
  have h2 := sz_nn s
  have h3 := hp.2
  omega
theorem fn_i_FacesOfSize : FnOk Try.prog 118 F_s_FacesOfSize := by
  have env := (((envNil_ok (P := Try.prog)).add fn_i_IsComplex).add fn_i_facesIn).add fn_i_bySize
  refine fn_ok code_i_FacesOfSize mixed env ?_
  intro args r h hb
  obtain ⟨_, _, ⟨n, l⟩, z, rfl, h1, h2, h4⟩ := F2_inv h
  cases dC_inv h1
  cases dI_inv h2
  cases h4
  clear h
  refine ⟨by simp, fun w0 U0 L0 N0 => ?_⟩
  clear hb
  cases e0 : cplxB n l with
  | false =>
    have hc : ¬ cplx n l := fun h => by simp [cplxB_iff.2 h] at e0
    rw [fosL_not hc]
    simp -implicitDefEqProofs [sc_i_FacesOfSize, F_s_IsComplex, e0]
  | true =>
  have hc := cplxB_iff.1 e0
  have hS := cplx_isS hc
  have hg := bySG_fam (faceS l)
  have htb := topZ_bnd (faceS l)
  have hlen : ((bySR (faceS l)).length : Int) = topZ (faceS l) + 1 := by unfold bySR; rw [bySz_len]; omega
  by_cases h0 : z < 0
  · rw [fos_none hc (by omega)]
    simp -implicitDefEqProofs [sc_i_FacesOfSize, F_s_IsComplex, F_i_facesIn, F_i_bySize, e0, hS, hg, h0]
  by_cases h2 : ((bySR (faceS l)).length : Int) ≤ z
  · rw [fos_none hc (by omega)]
    simp -implicitDefEqProofs [sc_i_FacesOfSize, F_s_IsComplex, F_i_facesIn, F_i_bySize, e0, hS, hg, h0, h2]
  obtain ⟨k, rfl⟩ : ∃ k : Nat, z = k := ⟨z.toNat, by omega⟩
  have hk : k < (bySR (faceS l)).length := by omega
  have hat : atR (bySR (faceS l)) k = fosL n l k := by
    rw [fosL_of hc]
    unfold bySR at hk ⊢
    rw [bySz_len] at hk
    exact bySz_sets hk
  generalize fosL n l k = R at *
  generalize bySR (faceS l) = B at *
  simp -implicitDefEqProofs [sc_i_FacesOfSize, F_s_IsComplex, F_i_facesIn, F_i_bySize, e0, hS, hg, h0, h2, hk, hat]
end Go.Proofs.Ytmemomfffehnkaa
