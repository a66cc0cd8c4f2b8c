/- Holes over the integers tell holes modulo each prime: the given law FnTwists returns true for every input, and the card that ties its laid variables to the program's text holds. Conditions: none but those that the given statement itself names. -/
import Derived.Test.YtkoljbncokmeaaaGreatDoorMEC
import Derived.Test.YtkoljbncokmeaaaGreatDoorMES
import Derived.Test.YtkoljbncokmeaaaGreatDoorTie
import Derived.Test.YtkoljbncokmeaaaGreatDoorCards
import Derived.LaidHandle
import Derived.LaidLaws
import Derived.Handed
import Derived.SevenTiedAt
import Derived.ChangeVars
namespace Go.Proofs.YtkoljbncokmeaaaGreatDoor
open Go.ChangeShapes Go.WideShapes Go.ChangeAt Go.RowKit
set_option maxRecDepth 1000000
set_option linter.unusedSimpArgs false
set_option linter.unusedVariables false
/-- The cells of a row of laid data. -/
def cellsOf : DataW Unit → Array Value
  | .agg l => (l.map fun d => match d with
    | .lit (.int k n) => Value.int k n
    | _ => Value.bool false).toArray
  | _ => #[]
/-- A world where the listed variables hold what their text lays. -/
noncomputable def laidWorld (os : Os) : World :=
  let w0 := World.holding Tryz.prog os ⟨#[], #[], []⟩
  let put (h : Array Obj) (g : Nat) (cs : Array Value) : Array Obj := h.modify g fun
    | .cells _ t frozen => .cells cs t frozen
    | o => o
  { w0 with heap := put (put (put w0.heap 1 (cellsOf Rows.laid_internal_strconv_uint64pow10)) 2 (cellsOf Rows.laid_math_bits_deBruijn32tab)) 3 (cellsOf Rows.laid_math_bits_deBruijn64tab) }
theorem laidWorld_met (os : Os) (args : Array Value) : laidMetH Tryz.prog Rows.fnTwistsRow.laid ((laidWorld os).forCall (fun _ _ => 0) ⟨#[], args, []⟩).memory :=
  laidMetH_of_parts (laidMet_of_run' 8 (by kernel_rfl) (by kernel_rfl)) (by kernel_rfl)
theorem law_FnTwists (os : Os) (started : os.Started) (H : Type) (enc : TypeId × Value → H) :
    ReturnsInHanded {} Tryz.checked os 3 .any (fun w args => (Rows.fnTwistsSpec.pre enc Tryz.prog Tryz.f3 Rows.fnTwistsRow.domain false w args ∧ laidMetH Tryz.prog Rows.fnTwistsRow.laid w) ∧ sizedMet enc Tryz.prog Tryz.f3 (OpenSpec.ofChange Rows.fnTwistsSpec) false w args)
      (Rows.fnTwistsSpec.post enc Tryz.prog Tryz.f3 false true false false) := by
  refine returnsInHanded_of_change_and (C := Tryz.checked) (X := fun w _ => laidMetH Tryz.prog Rows.fnTwistsRow.laid w) (fun _ _ _ hh h => h.of_heap hh) own0 started (by kernel_rfl) Tryz.func3
    (ChangeSpec.witness_at (enc := enc) (C := Tryz.checked) (os := os) (X := fun w _ => laidMetH Tryz.prog Rows.fnTwistsRow.laid w) false (laidWorld os) #[.slice none 0 0] 8 rfl (by kernel_rfl) (by kernel_rfl) (by kernel_rfl) (by kernel_rfl) (by kernel_rfl) (laidWorld_met os _)) ?_
  intro W base args ds gs before hval0 hW hcnd _ _ _
  have hval : ∀ (j : Nat) t v, Tryz.f3.params[j]? = some t → args[j]? = some v → Value.okWide Tryz.prog W .any base t v := hval0
  obtain ⟨p, q, hA0, hV, hpq, hfz, hnd⟩ := id hW
  have hA : DataW.TrodAll enc Tryz.prog W 0 (fun _ => true) true Tryz.f3.params.toList args.toList ds p := hA0
  rw [Tryz.params3] at hA hval
  obtain ⟨v0, d0, rfl, rfl, h0⟩ := trodAll_one hA
  obtain ⟨rfl, _⟩ := trodVars_none hV
  obtain ⟨b, hc0, r0⟩ := rd_bytes (N := fun _ => none) (U := fun b => b < W.heap.size) (fun _ h => h) Tryz.underlying22 Tryz.underlying5 (by kernel_rfl) (hval 0 _ v0 rfl rfl) h0
  exact law_post (s := Rows.fnTwistsSpec) (fn_l_FnTwists.ok [.list 1 (u8s b)] _ (by simp only [F_l_FnTwists]; exact if_pos ⟨b, hc0, rfl⟩)) laidOut0 (by kernel_rfl) rfl Tryz.underlying4 rfl hW rfl rfl rfl
    (.cons _ _ _ _ [] [] _ r0 .nil rfl)
theorem facts_FnTwists : joinedFacts Tryz.checked.prog 3 Tryz.f3 Rows.fnTwistsSpec Rows.fnTwistsRow = true := by
  have h := headP
  simp only [Bool.and_eq_true] at h
  obtain ⟨⟨h1, h2⟩, h3⟩ := h
  have h4 : (Rows.fnTwistsRow.lifted == Tryz.checked.prog.liftsFinal) = true := h2
  have h5 : (Tryz.checked.prog.make == some Rows.fnTwistsRow.make) = true := h3
  unfold joinedFacts
  rw [h1, h4, h5]
  refine (?_ : _ = true)
  kernel_rfl
theorem FnTwists_holds : Rows.FnTwistsSaid :=
  OpenClaim.holds_of_wide 3 Tryz.f3 rfl rfl rfl rfl rfl rfl rfl ⟨rfl, rfl, rfl, rfl, rfl⟩ rfl rfl rfl rfl rfl (by kernel_rfl) Tryz.func3 facts_FnTwists
    (of_decide_eq_true (by kernel_rfl)) (by unfold Func.isWrapper; first | (rw [if_pos (by decide +kernel)]; kernel_rfl) | (rw [if_neg (by decide +kernel)]; exact ⟨rfl, rfl⟩))
    (fun os started H enc _ => law_FnTwists os started H enc)
theorem FnTwistsCard_holds : Rows.FnTwistsCardSaid :=
  Claim7.holds_tied_plain_at .later [] [.data, .data, .data] true (true, "f330a9e9e8586937a3c9ebda364682809ae942941c6f919d0fb1d04503386375") false
    FnTwists_holds (fun _ h => by cases h) (by kernel_rfl) (fun _ h => by cases h) fnTwists_row_tie rfl ⟨rfl, rfl⟩ (by kernel_rfl) rfl
    (fun f fn hf hfn => by
      obtain rfl : f = 3 := Option.some.inj ((show Tryz.prog.funcNamed "loop.example/g03100/laws.FnTwists" = some 3 by kernel_rfl).symm.trans hf) |>.symm
      obtain rfl : fn = Tryz.f3 := (Option.some.inj (Tryz.func3.symm.trans hfn)).symm
      exact ⟨by kernel_rfl, fun j t ht => by
        rw [Tryz.params3] at ht
        have h3 : t = 22 := by
          rcases j with _ | j
          · simpa using ht.symm
          · simp at ht
        subst h3
        exact (show Tryz.prog.wantsStandIn 22 = false by kernel_rfl)⟩)
    (by kernel_rfl)
end Go.Proofs.YtkoljbncokmeaaaGreatDoor
