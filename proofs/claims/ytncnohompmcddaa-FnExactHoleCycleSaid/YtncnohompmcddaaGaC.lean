import Derived.Test.YtncnohompmcddaaKJ
namespace Go.Proofs.Ytncnohompmcddaa
open Go Go.RowKit
set_option maxRecDepth 1000000
set_option linter.unusedSimpArgs false
set_option linter.unusedVariables false
set_option maxHeartbeats 1000000
def sc_i_complexOf : SC := (.seq (.reg [⟨(some 4), none, (.new [(.int .i64 0), .nil])⟩]) (.seq (.reg [⟨(some 5), none, (.mov (.t 0))⟩, ⟨(some 6), none, (.mov (.t 1))⟩, ⟨(some 7), none, (.call 115 [(.t 6)])⟩, ⟨(some 8), none, (.agg [(.int .i64 0), .nil] [(0, (1, (.t 5))), (1, (1, (.t 7)))])⟩, ⟨none, none, (.st 2 (.t 4) (.t 8))⟩]) .ret))
theorem code_i_complexOf : fnCode Try.prog [] 111 = some (9, sc_i_complexOf, [(4, (some 2))]) := by kernel_rfl
noncomputable def cofG (n f : Int) : Option V := @ite _ (0 ≤ f ∧ f < 18446744073709551616) (Classical.propDecidable _) (some (.agg [.int .i64 n, .own 1 (ints (setsOf (maxP (bitP f))))])) none
theorem cofG_fam (n : Int) (p : Int → Prop) : cofG n (fam p) = some (.agg [.int .i64 n, .own 1 (ints (setsOf (maxP p)))]) := by
  unfold cofG
  rw [if_pos ⟨fam_nn p, fam_lt p⟩, setsOf_congr fun s hs => maxP_congr (fun s hs => bitP_fam hs) hs]
noncomputable def F_i_complexOf : List V → Option V := F2 dI dU cofG
theorem fn_i_complexOf : FnOk Try.prog 111 F_i_complexOf := by
  have env := (envNil_ok (P := Try.prog)).add fn_i_maximalIn
  refine fn_ok code_i_complexOf mixed env ?_
  intro args r h hb
  obtain ⟨_, _, n, f, rfl, h1, h2, h4⟩ := F2_inv h
  cases dI_inv h1
  cases dU_inv h2
  clear h
  simp only [cofG, Option.ite_none_right_eq_some, Option.some.injEq] at h4
  obtain ⟨⟨hf1, hf2⟩, rfl⟩ := h4
  have hf := fam_bitP hf1 hf2
  generalize bitP f = p at *
  subst hf
  refine ⟨by simp, fun w0 U0 L0 N0 => ?_⟩
  have hm := maxG_fam p
  simp -implicitDefEqProofs [sc_i_complexOf, F_i_maximalIn, hm]
end Go.Proofs.Ytncnohompmcddaa
