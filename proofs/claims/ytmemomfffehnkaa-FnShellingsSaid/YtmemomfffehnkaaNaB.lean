/- Proved here is the given statement FnShellings: New faces of a shelling divide the faces into intervals and give the h numbers of a pure complex. Conditions: those that the given statement itself names, and no others. -/
import Derived.Test.YtmemomfffehnkaaKW
import Derived.Test.YtmemomfffehnkaaLwF
import Derived.Test.YtmemomfffehnkaaJcB
import Derived.Test.YtmemomfffehnkaaLrB
namespace Go.Proofs.Ytmemomfffehnkaa
open Go.ChangeShapes Go.WideShapes Go.ChangeAt Go.RowKit
set_option maxRecDepth 1000000
set_option linter.unusedSimpArgs false
set_option linter.unusedVariables false
theorem law_FnShellings (os : Os) (started : os.Started) (H : Type) (enc : TypeId × Value → H) :
    ReturnsInHanded {} Try.checked os 4 .any (Rows.fnShellingsSpec.pre6 enc Try.prog Try.f4 Rows.fnShellingsRow.domain false) (Rows.fnShellingsSpec.post enc Try.prog Try.f4 false true false false) := by
  refine returnsInHanded_of_change (C := Try.checked) own0 started (by kernel_rfl) Try.func4
    (ChangeSpec.witness6 (enc := enc) (C := Try.checked) false ⟨#[], #[.slice none 0 0], []⟩ 8 (by kernel_rfl) (by kernel_rfl) (by kernel_rfl) (by kernel_rfl)) ?_
  intro W base args ds gs before hval0 hW hcnd _
  have hval : ∀ (j : Nat) t v, Try.f4.params[j]? = some t → args[j]? = some v → Value.okWide Try.prog W .any base t v := hval0
  obtain ⟨p, q, hA0, hV, hpq, hfz, hnd⟩ := id hW
  have hA : DataW.TrodAll enc Try.prog W 0 (fun _ => true) true Try.f4.params.toList args.toList ds p := hA0
  rw [Try.params4] at hA hval
  obtain ⟨v0, d0, rfl, rfl, h0⟩ := trodAll_one hA
  obtain ⟨rfl, _⟩ := trodVars_none hV
  obtain ⟨b, hc0, r0⟩ := rd_bytes (N := fun _ => none) (U := fun b => b < W.heap.size) (fun _ h => h) Try.underlying22 Try.underlying5 (by kernel_rfl) (hval 0 _ v0 rfl rfl) h0
  exact law_post (s := Rows.fnShellingsSpec) (fn_l_FnShellings.ok [.list 1 (u8s b)] _ (by simp only [F_l_FnShellings]; exact if_pos ⟨b, hc0, rfl⟩)) laidOut0 (by kernel_rfl) rfl Try.underlying4 rfl hW rfl rfl rfl
    (.cons _ _ _ _ [] [] _ r0 .nil rfl)

theorem facts_FnShellings : joinedFacts Try.checked.prog 4 Try.f4 Rows.fnShellingsSpec Rows.fnShellingsRow = true := by
  have h := headP
  simp only [Bool.and_eq_true] at h
  obtain ⟨⟨h1, h2⟩, h3⟩ := h
  have h4 : (Rows.fnShellingsRow.lifted == Try.checked.prog.liftsFinal) = true := h2
  have h5 : (Try.checked.prog.make == some Rows.fnShellingsRow.make) = true := h3
  unfold joinedFacts
  rw [h1, h4, h5]
  refine (?_ : _ = true)
  kernel_rfl
theorem FnShellings_holds : Rows.FnShellingsSaid :=
  OpenClaim.holds_of_wide 4 Try.f4 rfl rfl rfl rfl rfl rfl rfl ⟨rfl, rfl, rfl, rfl, rfl⟩ rfl rfl rfl rfl rfl (by kernel_rfl) Try.func4 facts_FnShellings
    (of_decide_eq_true (by kernel_rfl)) (by unfold Func.isWrapper; first | (rw [if_pos (by decide +kernel)]; kernel_rfl) | (rw [if_neg (by decide +kernel)]; exact ⟨rfl, rfl⟩))
    (fun os started H enc _ => law_FnShellings os started H enc)
end Go.Proofs.Ytmemomfffehnkaa
