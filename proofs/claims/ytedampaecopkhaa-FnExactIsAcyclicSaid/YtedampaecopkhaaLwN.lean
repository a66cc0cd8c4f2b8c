/- Proved here is the given statement FnExactIsAcyclic: The program's IsAcyclic returns what the reference's returns, for all arguments. Conditions: those that the given statement itself names, and no others. -/
import Derived.Test.YtedampaecopkhaaAbsW
import Derived.Test.YtedampaecopkhaaFqM
import Derived.Test.YtedampaecopkhaaLrA
namespace Go.Proofs.Ytedampaecopkhaa
open Go.ChangeShapes Go.WideShapes Go.ChangeAt Go.RowKit
set_option maxRecDepth 1000000
set_option linter.unusedSimpArgs false
set_option linter.unusedVariables false
theorem law_FnExactIsAcyclic (os : Os) (started : os.Started) (H : Type) (enc : TypeId × Value → H) :
    ReturnsInHanded {} Try.checked os 10 .any (Rows.fnExactIsAcyclicSpec.pre6 enc Try.prog Try.f10 Rows.fnExactIsAcyclicRow.domain false) (Rows.fnExactIsAcyclicSpec.post enc Try.prog Try.f10 false true false false) := by
  refine returnsInHanded_of_change (C := Try.checked) own0 started (by kernel_rfl) Try.func10
    (ChangeSpec.witness6 (enc := enc) (C := Try.checked) false ⟨#[], #[.agg #[.int .i64 0, .slice none 0 0], .slice none 0 0], []⟩ 8 (by kernel_rfl) (by kernel_rfl) (by kernel_rfl) (by kernel_rfl)) ?_
  intro W base args ds gs before hval0 hW hcnd _
  have hval : ∀ (j : Nat) t v, Try.f10.params[j]? = some t → args[j]? = some v → Value.okWide Try.prog W .any base t v := hval0
  obtain ⟨p, q, hA0, hV, hpq, hfz, hnd⟩ := id hW
  have hA : DataW.TrodAll enc Try.prog W 0 (fun _ => true) true Try.f10.params.toList args.toList ds p := hA0
  rw [Try.params10] at hA hval
  obtain ⟨v0, v1, d0, d1, p0, p1, rfl, rfl, rfl, h0, h1⟩ := trodAll_two hA
  obtain ⟨rfl, _⟩ := trodVars_none hV
  obtain ⟨n, l, _, hc0, r0⟩ := rd_cplx (N := fun _ => none) (U := fun b => b < W.heap.size) (fun _ h => h) Try.underlying24 rfl rfl rfl rfl (by kernel_rfl) (by kernel_rfl) (by kernel_rfl) Try.underlying3 Try.underlying22 Try.underlying3 (by kernel_rfl) (hval 0 _ v0 rfl rfl) h0
  obtain ⟨list, hc1, r1⟩ := rd_prs (N := fun _ => none) (U := fun b => b < W.heap.size) (fun _ h => h) Try.underlying46 Try.underlying84 rfl rfl rfl rfl (by kernel_rfl) (by kernel_rfl) (by kernel_rfl) Try.underlying3 Try.underlying3 (hval 1 _ v1 rfl rfl) h1
  have hk0 : allR l := hc0
  have hk1 : allRP list := hc1
  exact law_post (s := Rows.fnExactIsAcyclicSpec) (fn_l_FnExactIsAcyclic.ok [.agg [.int .i64 n, .list 1 (ints l)], .list 2 (prs list)] _ (by simp [F_l_FnExactIsAcyclic, hk0, hk1])) laidOut0 (by kernel_rfl) rfl Try.underlying4 rfl hW rfl rfl rfl
    (.cons _ _ _ _ [] [] _ r0 (.cons _ _ _ _ [] [] _ r1 .nil rfl) rfl)

theorem FnExactIsAcyclic_holds : Rows.FnExactIsAcyclicSaid :=
  OpenClaim.holds_of_wide 10 Try.f10 rfl rfl rfl rfl rfl rfl rfl ⟨rfl, rfl, rfl, rfl, rfl⟩ rfl rfl rfl rfl rfl (by kernel_rfl) Try.func10 (by kernel_rfl)
    (of_decide_eq_true (by kernel_rfl)) (by unfold Func.isWrapper; first | (rw [if_pos (by decide +kernel)]; kernel_rfl) | (rw [if_neg (by decide +kernel)]; exact ⟨rfl, rfl⟩))
    (fun os started H enc _ => law_FnExactIsAcyclic os started H enc)
end Go.Proofs.Ytedampaecopkhaa
