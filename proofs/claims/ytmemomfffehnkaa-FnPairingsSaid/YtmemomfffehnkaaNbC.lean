/- Proved here is the given statement FnPairings: The pairing by points is acyclic; unpaired faces keep the Euler number and are at least as many as holes. Conditions: those that the given statement itself names, and no others. -/
import Derived.Test.YtmemomfffehnkaaKW
import Derived.Test.YtmemomfffehnkaaLwF
import Derived.Test.YtmemomfffehnkaaNaC
import Derived.Test.YtmemomfffehnkaaLrB
namespace Go.Proofs.Ytmemomfffehnkaa
open Go.ChangeShapes Go.WideShapes Go.ChangeAt Go.RowKit
set_option maxRecDepth 1000000
set_option linter.unusedSimpArgs false
set_option linter.unusedVariables false
theorem law_FnPairings (os : Os) (started : os.Started) (H : Type) (enc : TypeId × Value → H) :
    ReturnsInHanded {} Try.checked os 7 .any (Rows.fnPairingsSpec.pre6 enc Try.prog Try.f7 Rows.fnPairingsRow.domain false) (Rows.fnPairingsSpec.post enc Try.prog Try.f7 false true false false) := by
  refine returnsInHanded_of_change (C := Try.checked) own0 started (by kernel_rfl) Try.func7
    (ChangeSpec.witness6 (enc := enc) (C := Try.checked) false ⟨#[], #[.slice none 0 0], []⟩ 8 (by kernel_rfl) (by kernel_rfl) (by kernel_rfl) (by kernel_rfl)) ?_
  intro W base args ds gs before hval0 hW hcnd _
  have hval : ∀ (j : Nat) t v, Try.f7.params[j]? = some t → args[j]? = some v → Value.okWide Try.prog W .any base t v := hval0
  obtain ⟨p, q, hA0, hV, hpq, hfz, hnd⟩ := id hW
  have hA : DataW.TrodAll enc Try.prog W 0 (fun _ => true) true Try.f7.params.toList args.toList ds p := hA0
  rw [Try.params7] at hA hval
  obtain ⟨v0, d0, rfl, rfl, h0⟩ := trodAll_one hA
  obtain ⟨rfl, _⟩ := trodVars_none hV
  obtain ⟨b, hc0, r0⟩ := rd_bytes (N := fun _ => none) (U := fun b => b < W.heap.size) (fun _ h => h) Try.underlying22 Try.underlying5 (by kernel_rfl) (hval 0 _ v0 rfl rfl) h0
  exact law_post (s := Rows.fnPairingsSpec) (fn_l_FnPairings.ok [.list 1 (u8s b)] _ (by simp only [F_l_FnPairings]; exact if_pos ⟨b, hc0, rfl⟩)) laidOut0 (by kernel_rfl) rfl Try.underlying4 rfl hW rfl rfl rfl
    (.cons _ _ _ _ [] [] _ r0 .nil rfl)

theorem facts_FnPairings : joinedFacts Try.checked.prog 7 Try.f7 Rows.fnPairingsSpec Rows.fnPairingsRow = true := by
  have h := headP
  simp only [Bool.and_eq_true] at h
  obtain ⟨⟨h1, h2⟩, h3⟩ := h
  have h4 : (Rows.fnPairingsRow.lifted == Try.checked.prog.liftsFinal) = true := h2
  have h5 : (Try.checked.prog.make == some Rows.fnPairingsRow.make) = true := h3
  unfold joinedFacts
  rw [h1, h4, h5]
  refine (?_ : _ = true)
  kernel_rfl
theorem FnPairings_holds : Rows.FnPairingsSaid :=
  OpenClaim.holds_of_wide 7 Try.f7 rfl rfl rfl rfl rfl rfl rfl ⟨rfl, rfl, rfl, rfl, rfl⟩ rfl rfl rfl rfl rfl (by kernel_rfl) Try.func7 facts_FnPairings
    (of_decide_eq_true (by kernel_rfl)) (by unfold Func.isWrapper; first | (rw [if_pos (by decide +kernel)]; kernel_rfl) | (rw [if_neg (by decide +kernel)]; exact ⟨rfl, rfl⟩))
    (fun os started H enc _ => law_FnPairings os started H enc)
end Go.Proofs.Ytmemomfffehnkaa
