/- Proved here is the given statement FnExactCanExpand: The program's CanExpand returns what the reference's returns, for all arguments. Conditions: those that the given statement itself names, and no others. -/
import Derived.Test.YtmeeihfjldooeaaAbsW
import Derived.Test.YtmeeihfjldooeaaFmB
namespace Go.Proofs.Ytmeeihfjldooeaa
open Go.ChangeShapes Go.WideShapes Go.ChangeAt Go.RowKit
set_option maxRecDepth 1000000
set_option linter.unusedSimpArgs false
set_option linter.unusedVariables false
theorem law_FnExactCanExpand (os : Os) (started : os.Started) (H : Type) (enc : TypeId × Value → H) :
    ReturnsInHanded {} Try.checked os 5 .any (Rows.fnExactCanExpandSpec.pre6 enc Try.prog Try.f5 Rows.fnExactCanExpandRow.domain false) (Rows.fnExactCanExpandSpec.post enc Try.prog Try.f5 false true false false) := by
  refine returnsInHanded_of_change (C := Try.checked) own0 started (by kernel_rfl) Try.func5
    (ChangeSpec.witness6 (enc := enc) (C := Try.checked) false ⟨#[], #[.agg #[.int .i64 0, .slice none 0 0], .int .i64 0, .int .i64 0], []⟩ 8 (by kernel_rfl) (by kernel_rfl) (by kernel_rfl) (by kernel_rfl)) ?_
  intro W base args ds gs before hval0 hW hcnd _
  have hval : ∀ (j : Nat) t v, Try.f5.params[j]? = some t → args[j]? = some v → Value.okWide Try.prog W .any base t v := hval0
  obtain ⟨p, q, hA0, hV, hpq, hfz, hnd⟩ := id hW
  have hA : DataW.TrodAll enc Try.prog W 0 (fun _ => true) true Try.f5.params.toList args.toList ds p := hA0
  rw [Try.params5] at hA hval
  obtain ⟨v0, v1, v2, d0, d1, d2, p0, p1, p2, rfl, rfl, rfl, h0, h1, h2⟩ := trodAll_three hA
  obtain ⟨rfl, _⟩ := trodVars_none hV
  obtain ⟨n, l, _, hc0, r0⟩ := rd_cplx (N := fun _ => none) (U := fun b => b < W.heap.size) (fun _ h => h) Try.underlying24 rfl rfl rfl rfl (by kernel_rfl) (by kernel_rfl) (by kernel_rfl) Try.underlying3 Try.underlying22 Try.underlying3 (by kernel_rfl) (hval 0 _ v0 rfl rfl) h0
  obtain ⟨x1, hc1, r1⟩ := rd_int (N := fun _ => none) (U := fun b => b < W.heap.size) Try.underlying3 (hval 1 _ v1 rfl rfl) h1
  obtain ⟨x2, hc2, r2⟩ := rd_int (N := fun _ => none) (U := fun b => b < W.heap.size) Try.underlying3 (hval 2 _ v2 rfl rfl) h2
  have hk0 : allR l := hc0
  have hk1 : inR x1 := hc1
  have hk2 : inR x2 := hc2
  exact law_post (s := Rows.fnExactCanExpandSpec) (fn_l_FnExactCanExpand.ok [.agg [.int .i64 n, .list 1 (ints l)], .int .i64 x1, .int .i64 x2] _ (by simp [F_l_FnExactCanExpand, hk0, hk1, hk2])) laidOut0 (by kernel_rfl) rfl Try.underlying4 rfl hW rfl rfl rfl
    (.cons _ _ _ _ [] [] _ r0 (.cons _ _ _ _ [] [] _ r1 (.cons _ _ _ _ [] [] _ r2 .nil rfl) rfl) rfl)

theorem FnExactCanExpand_holds : Rows.FnExactCanExpandSaid :=
  OpenClaim.holds_of_wide 5 Try.f5 rfl rfl rfl rfl rfl rfl rfl ⟨rfl, rfl, rfl, rfl, rfl⟩ rfl rfl rfl rfl rfl (by kernel_rfl) Try.func5 (by kernel_rfl)
    (of_decide_eq_true (by kernel_rfl)) (by unfold Func.isWrapper; first | (rw [if_pos (by decide +kernel)]; kernel_rfl) | (rw [if_neg (by decide +kernel)]; exact ⟨rfl, rfl⟩))
    (fun os started H enc _ => law_FnExactCanExpand os started H enc)
end Go.Proofs.Ytmeeihfjldooeaa
