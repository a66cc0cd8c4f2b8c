import Derived.Test.YtmemomfffehnkaaKD
namespace Go.Proofs.Ytmemomfffehnkaa
open Go Go.RowKit
set_option maxRecDepth 1000000
set_option linter.unusedSimpArgs false
set_option linter.unusedVariables false
set_option maxHeartbeats 1000000
def sc_l_at22 : SC := (.seq (.reg [⟨(some 4), none, (.mov (.c (.int .i64 0)))⟩]) (.seq (.seq (.reg [⟨(some 5), none, (.mov (.t 1))⟩, ⟨(some 6), none, (.bin false .lss (.t 5) (.c (.int .i64 0)))⟩, ⟨(some 7), none, (.mov (.t 6))⟩, ⟨(some 8), (some (7, false)), (.mov (.t 1))⟩, ⟨(some 9), (some (7, false)), (.mov (.t 0))⟩, ⟨(some 10), (some (7, false)), (.len (.t 9))⟩, ⟨(some 11), (some (7, false)), (.bin false .geq (.t 8) (.t 10))⟩, ⟨(some 12), none, (.pick (.t 7) (.c (.bool true)) (.t 11))⟩]) (.cond (.t 12) (.seq (.reg [⟨(some 4), none, (.mov (.c (.int .i64 0)))⟩]) .ret) .skip)) (.seq (.reg [⟨(some 13), none, (.mov (.t 0))⟩, ⟨(some 14), none, (.mov (.t 1))⟩, ⟨(some 15), none, (.idx 1 (.t 13) (.t 14))⟩, ⟨(some 16), none, (.ld none (.int .i64 0) (.t 15))⟩, ⟨(some 4), none, (.mov (.t 16))⟩]) .ret)))
theorem code_l_at22 : fnCode Try.prog [] 26 = some (17, sc_l_at22, [(4, none)]) := by kernel_rfl
noncomputable def atZ (l : List Int) (i : Int) : Int := @ite _ (i < 0) (Classical.propDecidable _) 0 (at0 l i.toNat)
noncomputable def F_l_at22 : List V → Option V := F2 dL dI fun l i => some (.int .i64 (atZ l i))
theorem atZ_nat (l : List Int) (k : Nat) : atZ l (k : Int) = at0 l k := by
  unfold atZ
  rw [if_neg (by omega), Int.toNat_natCast]
theorem at0_none {l : List Int} {k : Nat} (h : l.length ≤ k) : at0 l k = 0 := by simp [at0, List.getElem?_eq_none h]
theorem fn_l_at22 : FnOk Try.prog 26 F_l_at22 := by
  refine fn_ok code_l_at22 mixed envNil_ok ?_
  intro args r h hb
  obtain ⟨_, _, l, i, rfl, h1, h2, h4⟩ := F2_inv h
  cases dL_inv h1
  cases dI_inv h2
  cases h4
  clear h
  refine ⟨by simp, fun w0 U0 L0 N0 => ?_⟩
  clear hb
  by_cases h0 : i < 0
  · have e : atZ l i = 0 := if_pos h0
    rw [e]
    simp -implicitDefEqProofs [sc_l_at22, h0]
  obtain ⟨k, rfl⟩ := Int.eq_ofNat_of_zero_le (show 0 ≤ i by omega)
  rw [atZ_nat]
  by_cases h1 : l.length ≤ k
  · rw [at0_none h1]
    have h2 : (l.length : Int) ≤ (k : Int) := by omega
    simp -implicitDefEqProofs [sc_l_at22, h1, h2]
    try omega
  · have h2 : ¬ (l.length : Int) ≤ (k : Int) := by omega
    have h3 : k < l.length := by omega
    simp -implicitDefEqProofs [sc_l_at22, h1, h2, h3]
    try omega
end Go.Proofs.Ytmemomfffehnkaa
