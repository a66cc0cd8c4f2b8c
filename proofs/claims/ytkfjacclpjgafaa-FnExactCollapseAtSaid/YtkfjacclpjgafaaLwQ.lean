/- Proved here is the given statement FnExactCollapseAt: The program's CollapseAt returns what the reference's returns, for all arguments. Conditions: those that the given statement itself names, and no others. -/
import Derived.Test.YtkfjacclpjgafaaKW
import Derived.Test.YtkfjacclpjgafaaLwF
import Derived.Test.YtkfjacclpjgafaaGaL
namespace Go.Proofs.Ytkfjacclpjgafaa
open Go.ChangeShapes Go.WideShapes Go.ChangeAt Go.RowKit
set_option maxRecDepth 1000000
set_option linter.unusedSimpArgs false
set_option linter.unusedVariables false
theorem law_FnExactCollapseAt (os : Os) (started : os.Started) (H : Type) (enc : TypeId × Value → H) :
    ReturnsInHanded {} Try.checked os 6 .any (Rows.fnExactCollapseAtSpec.pre6 enc Try.prog Try.f6 Rows.fnExactCollapseAtRow.domain false) (Rows.fnExactCollapseAtSpec.post enc Try.prog Try.f6 false true false false) := by
  refine returnsInHanded_of_change (C := Try.checked) own0 started (by kernel_rfl) Try.func6
    (ChangeSpec.witness6 (enc := enc) (C := Try.checked) false ⟨#[], #[.agg #[.int .i64 0, .slice none 0 0], .int .i64 0], []⟩ 8 (by kernel_rfl) (by kernel_rfl) (by kernel_rfl) (by kernel_rfl)) ?_
  intro W base args ds gs before hval0 hW hcnd _
  have hval : ∀ (j : Nat) t v, Try.f6.params[j]? = some t → args[j]? = some v → Value.okWide Try.prog W .any base t v := hval0
  obtain ⟨p, q, hA0, hV, hpq, hfz, hnd⟩ := id hW
  have hA : DataW.TrodAll enc Try.prog W 0 (fun _ => true) true Try.f6.params.toList args.toList ds p := hA0
  rw [Try.params6] at hA hval
  obtain ⟨v0, v1, d0, d1, p0, p1, rfl, rfl, rfl, h0, h1⟩ := trodAll_two hA
  obtain ⟨rfl, _⟩ := trodVars_none hV
  obtain ⟨n, l, _, hc0, r0⟩ := rd_cplx (N := fun _ => none) (U := fun b => b < W.heap.size) (fun _ h => h) Try.underlying24 rfl rfl rfl rfl (by kernel_rfl) (by kernel_rfl) (by kernel_rfl) Try.underlying3 Try.underlying22 Try.underlying3 (by kernel_rfl) (hval 0 _ v0 rfl rfl) h0
  obtain ⟨x1, hc1, r1⟩ := rd_int (N := fun _ => none) (U := fun b => b < W.heap.size) Try.underlying3 (hval 1 _ v1 rfl rfl) h1
  have hk0 : allR l := hc0
  have hk1 : inR x1 := hc1
  exact law_post (s := Rows.fnExactCollapseAtSpec) (fn_l_FnExactCollapseAt.ok [.agg [.int .i64 n, .list 1 (ints l)], .int .i64 x1] _ (by simp [F_l_FnExactCollapseAt, hk0, hk1])) laidOut0 (by kernel_rfl) rfl Try.underlying4 rfl hW rfl rfl rfl
    (.cons _ _ _ _ [] [] _ r0 (.cons _ _ _ _ [] [] _ r1 .nil rfl) rfl)

theorem facts_FnExactCollapseAt : joinedFacts Try.checked.prog 6 Try.f6 Rows.fnExactCollapseAtSpec Rows.fnExactCollapseAtRow = true := by
  have h := headP
  simp only [Bool.and_eq_true] at h
  obtain ⟨⟨h1, h2⟩, h3⟩ := h
  have h4 : (Rows.fnExactCollapseAtRow.lifted == Try.checked.prog.liftsFinal) = true := h2
  have h5 : (Try.checked.prog.make == some Rows.fnExactCollapseAtRow.make) = true := h3
  unfold joinedFacts
  rw [h1, h4, h5]
  refine (?_ : _ = true)
  kernel_rfl
theorem FnExactCollapseAt_holds : Rows.FnExactCollapseAtSaid :=
  OpenClaim.holds_of_wide 6 Try.f6 rfl rfl rfl rfl rfl rfl rfl ⟨rfl, rfl, rfl, rfl, rfl⟩ rfl rfl rfl rfl rfl (by kernel_rfl) Try.func6 facts_FnExactCollapseAt
    (of_decide_eq_true (by kernel_rfl)) (by unfold Func.isWrapper; first | (rw [if_pos (by decide +kernel)]; kernel_rfl) | (rw [if_neg (by decide +kernel)]; exact ⟨rfl, rfl⟩))
    (fun os started H enc _ => law_FnExactCollapseAt os started H enc)
end Go.Proofs.Ytkfjacclpjgafaa
