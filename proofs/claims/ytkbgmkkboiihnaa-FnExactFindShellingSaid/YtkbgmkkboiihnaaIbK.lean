import Derived.Test.YtkbgmkkboiihnaaIbJ
import Derived.Test.YtkbgmkkboiihnaaIbH
namespace Go.Proofs.Ytkbgmkkboiihnaa
open Go Go.RowKit
set_option maxRecDepth 1000000
set_option linter.unusedSimpArgs false
set_option linter.unusedVariables false
set_option maxHeartbeats 1000000
def sc_slices_Sort_int_int : SC := (.seq (.reg [⟨(some 3), none, (.mov (.t 0))⟩, ⟨(some 4), none, (.len (.t 3))⟩, ⟨(some 2), none, (.mov (.t 4))⟩]) (.reg [⟨(some 5), none, (.mov (.t 0))⟩, ⟨(some 6), none, (.mov (.t 2))⟩, ⟨(some 7), none, (.mov (.t 2))⟩, ⟨(some 8), none, (.conv .u64 (.t 7))⟩, ⟨(some 9), none, (.call 80 [(.t 8)])⟩, ⟨(some 10), none, (.call 79 [(.t 5), (.c (.int .i64 0)), (.t 6), (.t 9)])⟩]))
theorem code_slices_Sort_int_int : fnCode Try.prog [79] 66 = some (11, sc_slices_Sort_int_int, []) := by kernel_rfl
noncomputable def G_Sort : List V → List V → Option (V × List V)
  | [.sl 0 1 0 m], cells => (dInts cells).bind fun x =>
      @ite _ (m = x.length ∧ x.Nodup ∧ allS x ∧ x.length ≤ 8) (Classical.propDecidable _) (some (.tup [], ints (srt x))) none
  | _, _ => none
theorem ln_Sort : LendOk Try.prog 66 0 G_Sort := by
  have env := ((envNil_ok (P := Try.prog)).add fn_Len).addl ln_pdq
  refine fn_lend code_slices_Sort_int_int mixed env ?_
  intro args cells r cells' hG hb
  unfold G_Sort at hG
  split at hG
  case h_2 => simp at hG
  rename_i m
  obtain ⟨x, h1, hG1⟩ := Option.bind_eq_some_iff.1 hG
  have hc := dInts_inv h1
  subst hc
  simp only [Option.ite_none_right_eq_some, Option.some.injEq, Prod.mk.injEq] at hG1
  obtain ⟨⟨rfl, hn, hS, h8⟩, rfl, rfl⟩ := hG1
  clear hG h1 hb
  refine ⟨by simp, fun w0 U0 L0 N0 => ?_⟩
  have hw : IntKind.u64.wrap (x.length : Int) = (x.length : Int) := wrapU _ (by omega) (by omega)
  have hL : F_Len64 [.int .u64 (x.length : Int)] = some (.int .i64 (lenB x.length)) := by
    simp only [F_Len64, F1_mk, dU_int, Option.bind_some]
    rw [if_pos ⟨by omega, by omega⟩]
  have hGi : ∀ k, G_pdq [.sl 0 1 0 x.length, .int .i64 0, .int .i64 (x.length : Int), .int .i64 k] (ints x) = some (.tup [], ints (srt x)) := fun k => by
    simp only [G_pdq, dInts_ints, Option.bind_some]
    rw [if_pos ⟨rfl, rfl, rfl, hn, hS, by omega⟩]
  generalize srt x = sx at *
  generalize lenB x.length = k at *
  simp -implicitDefEqProofs [sc_slices_Sort_int_int, ren0, hw, hL, hGi]
end Go.Proofs.Ytkbgmkkboiihnaa
