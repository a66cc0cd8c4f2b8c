import Derived.Test.YtncnohompmcddaaKI
namespace Go.Proofs.Ytncnohompmcddaa
open Go Go.RowKit
set_option maxRecDepth 1000000
set_option linter.unusedSimpArgs false
set_option linter.unusedVariables false
set_option maxHeartbeats 1000000
def sc_i_HasFace : SC := (.seq (.reg [⟨(some 2), none, (.box (.t 0))⟩, ⟨(some 4), none, (.mov (.c (.bool false)))⟩]) (.seq (.seq (.reg [⟨(some 5), none, (.ld (some 2) .undef (.t 2))⟩, ⟨(some 6), none, (.call 38 [(.t 5)])⟩, ⟨(some 7), none, (.un .not (.t 6))⟩, ⟨(some 8), none, (.mov (.t 7))⟩, ⟨(some 9), (some (8, false)), (.fad 0 (.t 2))⟩, ⟨(some 10), (some (8, false)), (.ld none (.int .i64 0) (.t 9))⟩, ⟨(some 11), (some (8, false)), (.mov (.t 1))⟩, ⟨(some 12), (some (8, false)), (.call 83 [(.t 10), (.t 11)])⟩, ⟨(some 13), (some (8, false)), (.un .not (.t 12))⟩, ⟨(some 14), none, (.pick (.t 8) (.c (.bool true)) (.t 13))⟩]) (.cond (.t 14) (.seq (.reg [⟨(some 4), none, (.mov (.c (.bool false)))⟩]) .ret) .skip)) (.seq (.reg [⟨(some 15), none, (.ld (some 2) .undef (.t 2))⟩, ⟨(some 16), none, (.call 41 [(.t 15)])⟩, ⟨(some 17), none, (.mov (.t 1))⟩, ⟨(some 18), none, (.call 68 [(.t 16), (.t 17)])⟩, ⟨(some 4), none, (.mov (.t 18))⟩]) .ret)))
theorem isSet_face' {n : Int} {l : List Int} (hc : cplx n l) {s : Int} (hs : isS s) (h : faceS l s) : isSet n s = true := by
  obtain ⟨f, hf, hsf⟩ := h
  obtain ⟨j, hj, rfl⟩ := getD_mem_iff.1 hf
  have h1 := (hc.2.2 j hj).1
  have h2 := subS_le hs (cplx_isS hc _ hf) hsf
  simp only [isSet, decide_eq_true_eq] at h1 ⊢
  exact ⟨h1.1, h1.2.1, hs.1, by omega⟩
end Go.Proofs.Ytncnohompmcddaa
