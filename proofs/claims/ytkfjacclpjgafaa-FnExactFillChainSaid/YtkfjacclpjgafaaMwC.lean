/- Proved here is the given statement FnExactFillChain: The program's FillChain returns what the reference's returns, for all arguments. Conditions: those that the given statement itself names, and no others. -/
import Derived.Test.YtkfjacclpjgafaaKW
import Derived.Test.YtkfjacclpjgafaaLwF
import Derived.Test.YtkfjacclpjgafaaGdU
namespace Go.Proofs.Ytkfjacclpjgafaa
open Go.ChangeShapes Go.WideShapes Go.ChangeAt Go.RowKit
set_option maxRecDepth 1000000
set_option linter.unusedSimpArgs false
set_option linter.unusedVariables false
theorem law_FnExactFillChain (os : Os) (started : os.Started) (H : Type) (enc : TypeId × Value → H) :
    ReturnsInHanded {} Try.checked os 15 .any (Rows.fnExactFillChainSpec.pre6 enc Try.prog Try.f15 Rows.fnExactFillChainRow.domain false) (Rows.fnExactFillChainSpec.post enc Try.prog Try.f15 false true false false) := by
  refine returnsInHanded_of_change (C := Try.checked) own0 started (by kernel_rfl) Try.func15
    (ChangeSpec.witness6 (enc := enc) (C := Try.checked) false ⟨#[], #[.agg #[.int .i64 0, .slice none 0 0], .int .i64 0, .int .i64 0, .slice none 0 0], []⟩ 8 (by kernel_rfl) (by kernel_rfl) (by kernel_rfl) (by kernel_rfl)) ?_
  intro W base args ds gs before hval0 hW hcnd _
  have hval : ∀ (j : Nat) t v, Try.f15.params[j]? = some t → args[j]? = some v → Value.okWide Try.prog W .any base t v := hval0
  obtain ⟨p, q, hA0, hV, hpq, hfz, hnd⟩ := id hW
  have hA : DataW.TrodAll enc Try.prog W 0 (fun _ => true) true Try.f15.params.toList args.toList ds p := hA0
  rw [Try.params15] at hA hval
  obtain ⟨v0, v1, v2, v3, d0, d1, d2, d3, p0, p1, p2, p3, rfl, rfl, rfl, h0, h1, h2, h3⟩ := trodAll_four hA
  obtain ⟨rfl, _⟩ := trodVars_none hV
  obtain ⟨n, l, _, hc0, r0⟩ := rd_cplx (N := fun _ => none) (U := fun b => b < W.heap.size) (fun _ h => h) Try.underlying24 rfl rfl rfl rfl (by kernel_rfl) (by kernel_rfl) (by kernel_rfl) Try.underlying3 Try.underlying22 Try.underlying3 (by kernel_rfl) (hval 0 _ v0 rfl rfl) h0
  obtain ⟨x1, hc1, r1⟩ := rd_int (N := fun _ => none) (U := fun b => b < W.heap.size) Try.underlying3 (hval 1 _ v1 rfl rfl) h1
  obtain ⟨x2, hc2, r2⟩ := rd_int (N := fun _ => none) (U := fun b => b < W.heap.size) Try.underlying3 (hval 2 _ v2 rfl rfl) h2
  obtain ⟨list, hc3, r3⟩ := rd_ints (N := fun _ => none) (U := fun b => b < W.heap.size) (fun _ h => h) Try.underlying22 Try.underlying3 (by kernel_rfl) (hval 3 _ v3 rfl rfl) h3
  have hk0 : allR l := hc0
  have hk1 : inR x1 := hc1
  have hk2 : inR x2 := hc2
  have hk3 : allR list := hc3
  exact law_post (s := Rows.fnExactFillChainSpec) (fn_l_FnExactFillChain.ok [.agg [.int .i64 n, .list 1 (ints l)], .int .i64 x1, .int .i64 x2, .list 1 (ints list)] _ (by simp [F_l_FnExactFillChain, hk0, hk1, hk2, hk3])) laidOut0 (by kernel_rfl) rfl Try.underlying4 rfl hW rfl rfl rfl
    (.cons _ _ _ _ [] [] _ r0 (.cons _ _ _ _ [] [] _ r1 (.cons _ _ _ _ [] [] _ r2 (.cons _ _ _ _ [] [] _ r3 .nil rfl) rfl) rfl) rfl)

theorem facts_FnExactFillChain : joinedFacts Try.checked.prog 15 Try.f15 Rows.fnExactFillChainSpec Rows.fnExactFillChainRow = true := by
  have h := headP
  simp only [Bool.and_eq_true] at h
  obtain ⟨⟨h1, h2⟩, h3⟩ := h
  have h4 : (Rows.fnExactFillChainRow.lifted == Try.checked.prog.liftsFinal) = true := h2
  have h5 : (Try.checked.prog.make == some Rows.fnExactFillChainRow.make) = true := h3
  unfold joinedFacts
  rw [h1, h4, h5]
  refine (?_ : _ = true)
  kernel_rfl
theorem FnExactFillChain_holds : Rows.FnExactFillChainSaid :=
  OpenClaim.holds_of_wide 15 Try.f15 rfl rfl rfl rfl rfl rfl rfl ⟨rfl, rfl, rfl, rfl, rfl⟩ rfl rfl rfl rfl rfl (by kernel_rfl) Try.func15 facts_FnExactFillChain
    (of_decide_eq_true (by kernel_rfl)) (by unfold Func.isWrapper; first | (rw [if_pos (by decide +kernel)]; kernel_rfl) | (rw [if_neg (by decide +kernel)]; exact ⟨rfl, rfl⟩))
    (fun os started H enc _ => law_FnExactFillChain os started H enc)
end Go.Proofs.Ytkfjacclpjgafaa
