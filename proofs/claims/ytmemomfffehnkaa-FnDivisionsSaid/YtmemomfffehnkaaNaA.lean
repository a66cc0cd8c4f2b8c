/- Proved here is the given statement FnDivisions: A shelling gives a division, and every division of a pure complex gives the h numbers. Conditions: those that the given statement itself names, and no others. -/
import Derived.Test.YtmemomfffehnkaaKW
import Derived.Test.YtmemomfffehnkaaLwF
import Derived.Test.YtmemomfffehnkaaJcA
import Derived.Test.YtmemomfffehnkaaLrB
namespace Go.Proofs.Ytmemomfffehnkaa
open Go.ChangeShapes Go.WideShapes Go.ChangeAt Go.RowKit
set_option maxRecDepth 1000000
set_option linter.unusedSimpArgs false
set_option linter.unusedVariables false
theorem law_FnDivisions (os : Os) (started : os.Started) (H : Type) (enc : TypeId × Value → H) :
    ReturnsInHanded {} Try.checked os 9 .any (Rows.fnDivisionsSpec.pre6 enc Try.prog Try.f9 Rows.fnDivisionsRow.domain false) (Rows.fnDivisionsSpec.post enc Try.prog Try.f9 false true false false) := by
  refine returnsInHanded_of_change (C := Try.checked) own0 started (by kernel_rfl) Try.func9
    (ChangeSpec.witness6 (enc := enc) (C := Try.checked) false ⟨#[], #[.slice none 0 0], []⟩ 8 (by kernel_rfl) (by kernel_rfl) (by kernel_rfl) (by kernel_rfl)) ?_
  intro W base args ds gs before hval0 hW hcnd _
  have hval : ∀ (j : Nat) t v, Try.f9.params[j]? = some t → args[j]? = some v → Value.okWide Try.prog W .any base t v := hval0
  obtain ⟨p, q, hA0, hV, hpq, hfz, hnd⟩ := id hW
  have hA : DataW.TrodAll enc Try.prog W 0 (fun _ => true) true Try.f9.params.toList args.toList ds p := hA0
  rw [Try.params9] at hA hval
  obtain ⟨v0, d0, rfl, rfl, h0⟩ := trodAll_one hA
  obtain ⟨rfl, _⟩ := trodVars_none hV
  obtain ⟨b, hc0, r0⟩ := rd_bytes (N := fun _ => none) (U := fun b => b < W.heap.size) (fun _ h => h) Try.underlying22 Try.underlying5 (by kernel_rfl) (hval 0 _ v0 rfl rfl) h0
  exact law_post (s := Rows.fnDivisionsSpec) (fn_l_FnDivisions.ok [.list 1 (u8s b)] _ (by simp only [F_l_FnDivisions]; exact if_pos ⟨b, hc0, rfl⟩)) laidOut0 (by kernel_rfl) rfl Try.underlying4 rfl hW rfl rfl rfl
    (.cons _ _ _ _ [] [] _ r0 .nil rfl)

theorem facts_FnDivisions : joinedFacts Try.checked.prog 9 Try.f9 Rows.fnDivisionsSpec Rows.fnDivisionsRow = true := by
  have h := headP
  simp only [Bool.and_eq_true] at h
  obtain ⟨⟨h1, h2⟩, h3⟩ := h
  have h4 : (Rows.fnDivisionsRow.lifted == Try.checked.prog.liftsFinal) = true := h2
  have h5 : (Try.checked.prog.make == some Rows.fnDivisionsRow.make) = true := h3
  unfold joinedFacts
  rw [h1, h4, h5]
  refine (?_ : _ = true)
  kernel_rfl
theorem FnDivisions_holds : Rows.FnDivisionsSaid :=
  OpenClaim.holds_of_wide 9 Try.f9 rfl rfl rfl rfl rfl rfl rfl ⟨rfl, rfl, rfl, rfl, rfl⟩ rfl rfl rfl rfl rfl (by kernel_rfl) Try.func9 facts_FnDivisions
    (of_decide_eq_true (by kernel_rfl)) (by unfold Func.isWrapper; first | (rw [if_pos (by decide +kernel)]; kernel_rfl) | (rw [if_neg (by decide +kernel)]; exact ⟨rfl, rfl⟩))
    (fun os started H enc _ => law_FnDivisions os started H enc)
end Go.Proofs.Ytmemomfffehnkaa
