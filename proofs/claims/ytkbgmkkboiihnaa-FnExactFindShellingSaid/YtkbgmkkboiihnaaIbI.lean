import Derived.Test.YtkbgmkkboiihnaaIbF
namespace Go.Proofs.Ytkbgmkkboiihnaa
open Go Go.RowKit
set_option maxRecDepth 1000000
set_option linter.unusedSimpArgs false
set_option linter.unusedVariables false
set_option maxHeartbeats 1000000
def sc_slices_Clone_int_int : SC := (.seq (.reg [⟨(some 2), none, (.mov (.c .nil))⟩]) (.seq (.seq (.reg [⟨(some 3), none, (.mov (.t 0))⟩, ⟨(some 4), none, (.isn true (.t 3))⟩]) (.cond (.t 4) (.seq (.reg [⟨(some 2), none, (.mov (.c .nil))⟩]) .ret) .skip)) (.seq (.reg [⟨(some 5), none, (.mks 0 1 [] [])⟩, ⟨(some 6), none, (.mov (.t 0))⟩, ⟨(some 7), none, (.app 1 8 (.t 5) (.t 6))⟩, ⟨(some 2), none, (.mov (.t 7))⟩]) .ret)))
theorem code_slices_Clone_int_int : fnCode Try.prog [] 65 = some (8, sc_slices_Clone_int_int, [(2, none)]) := by kernel_rfl
noncomputable def F_Clone : List V → Option V := F1 dL fun l => @ite _ (l.length ≤ 64) (Classical.propDecidable _) (some (.own 1 (ints l))) none
theorem fn_Clone : FnOk Try.prog 65 F_Clone := by
  refine fn_ok code_slices_Clone_int_int mixed envNil_ok ?_
  intro args r h hb
  obtain ⟨_, l, rfl, h1, h4⟩ := F1_inv h
  cases dL_inv h1
  simp only [Option.ite_none_right_eq_some, Option.some.injEq] at h4
  obtain ⟨hl, rfl⟩ := h4
  clear h
  refine ⟨by simp, fun w0 U0 L0 N0 => ?_⟩
  cases l with
  | nil =>
    have ho : ∀ s, opn 6 V.ub s = (V.ub, s) := fun _ => rfl
    simp -implicitDefEqProofs [sc_slices_Clone_int_int, ho]
  | cons a l =>
    simp only [List.length_cons] at hl
    simp -implicitDefEqProofs [sc_slices_Clone_int_int]
    try omega
end Go.Proofs.Ytkbgmkkboiihnaa
