/- Proved here is the given statement FnExactHolesText as a tied card: The program's HolesText returns what the reference's returns, for all arguments. Conditions: those that the given statement itself names, and no others. -/
import Derived.Test.YtkoljbncokmeaaaDoorPDC
import Derived.Test.YtkoljbncokmeaaaDoorPDP
import Derived.Test.YtkoljbncokmeaaaDoorTie
import Derived.Test.YtkoljbncokmeaaaDoorCards
import Derived.LaidHandle
import Derived.LaidLaws
import Derived.Handed
import Derived.SevenTiedAt
import Derived.ChangeVars
namespace Go.Proofs.YtkoljbncokmeaaaDoor
open Go.ChangeShapes Go.WideShapes Go.ChangeAt Go.RowKit
set_option maxRecDepth 1000000
set_option linter.unusedSimpArgs false
set_option linter.unusedVariables false
/-- The cells of a row of laid data. -/
def cellsOf : DataW Unit → Array Value
  | .agg l => (l.map fun d => match d with
    | .lit (.int k n) => Value.int k n
    | _ => Value.bool false).toArray
  | _ => #[]
/-- A world where the listed variables hold what their text lays. -/
noncomputable def laidWorld (os : Os) : World :=
  let w0 := World.holding Tryd.prog os ⟨#[], #[], []⟩
  let put (h : Array Obj) (g : Nat) (cs : Array Value) : Array Obj := h.modify g fun
    | .cells _ t frozen => .cells cs t frozen
    | o => o
  { w0 with heap := put (put (put w0.heap 1 (cellsOf Rows.laid_internal_strconv_uint64pow10)) 2 (cellsOf Rows.laid_math_bits_deBruijn32tab)) 3 (cellsOf Rows.laid_math_bits_deBruijn64tab) }
theorem laidWorld_met (os : Os) (args : Array Value) : laidMetH Tryd.prog Rows.fnExactHolesTextRow.laid ((laidWorld os).forCall (fun _ _ => 0) ⟨#[], args, []⟩).memory :=
  laidMetH_of_parts (laidMet_of_run' 8 (by kernel_rfl) (by kernel_rfl)) (by kernel_rfl)
theorem law_FnExactHolesText (os : Os) (started : os.Started) (H : Type) (enc : TypeId × Value → H) :
    ReturnsInHanded {} Tryd.checked os 3 .any (fun w args => (Rows.fnExactHolesTextSpec.pre enc Tryd.prog Tryd.f3 Rows.fnExactHolesTextRow.domain false w args ∧ laidMetH Tryd.prog Rows.fnExactHolesTextRow.laid w) ∧ sizedMet enc Tryd.prog Tryd.f3 (OpenSpec.ofChange Rows.fnExactHolesTextSpec) false w args)
      (Rows.fnExactHolesTextSpec.post enc Tryd.prog Tryd.f3 false true false false) := by
  refine returnsInHanded_of_change_and (C := Tryd.checked) (X := fun w _ => laidMetH Tryd.prog Rows.fnExactHolesTextRow.laid w) (fun _ _ _ hh h => h.of_heap hh) own0 started (by kernel_rfl) Tryd.func3
    (ChangeSpec.witness_at (enc := enc) (C := Tryd.checked) (os := os) (X := fun w _ => laidMetH Tryd.prog Rows.fnExactHolesTextRow.laid w) false (laidWorld os) #[.agg #[.int .i64 0, .slice none 0 0]] 8 rfl (by kernel_rfl) (by kernel_rfl) (by kernel_rfl) (by kernel_rfl) (by kernel_rfl) (laidWorld_met os _)) ?_
  intro W base args ds gs before hval0 hW hcnd _ _ _
  have hval : ∀ (j : Nat) t v, Tryd.f3.params[j]? = some t → args[j]? = some v → Value.okWide Tryd.prog W .any base t v := hval0
  obtain ⟨p, q, hA0, hV, hpq, hfz, hnd⟩ := id hW
  have hA : DataW.TrodAll enc Tryd.prog W 0 (fun _ => true) true Tryd.f3.params.toList args.toList ds p := hA0
  rw [Tryd.params3] at hA hval
  obtain ⟨v0, d0, rfl, rfl, h0⟩ := trodAll_one hA
  obtain ⟨rfl, _⟩ := trodVars_none hV
  obtain ⟨n, l, _, hc0, r0⟩ := rd_cplx (N := fun _ => none) (U := fun b => b < W.heap.size) (fun _ h => h) Tryd.underlying24 rfl rfl rfl rfl (by kernel_rfl) (by kernel_rfl) (by kernel_rfl) Tryd.underlying3 Tryd.underlying22 Tryd.underlying3 (by kernel_rfl) (hval 0 _ v0 rfl rfl) h0
  have hk0 : allR l := hc0
  exact law_post (s := Rows.fnExactHolesTextSpec) (fn_l_FnExactHolesText.ok [.agg [.int .i64 n, .list 1 (ints l)]] _ (by simp [F_l_FnExactHolesText, hk0])) laidOut0 (by kernel_rfl) rfl Tryd.underlying4 rfl hW rfl rfl rfl
    (.cons _ _ _ _ [] [] _ r0 .nil rfl)
theorem facts_FnExactHolesText : joinedFacts Tryd.checked.prog 3 Tryd.f3 Rows.fnExactHolesTextSpec Rows.fnExactHolesTextRow = true := by
  have h := headP
  simp only [Bool.and_eq_true] at h
  obtain ⟨⟨h1, h2⟩, h3⟩ := h
  have h4 : (Rows.fnExactHolesTextRow.lifted == Tryd.checked.prog.liftsFinal) = true := h2
  have h5 : (Tryd.checked.prog.make == some Rows.fnExactHolesTextRow.make) = true := h3
  unfold joinedFacts
  rw [h1, h4, h5]
  refine (?_ : _ = true)
  kernel_rfl
theorem FnExactHolesText_holds : Rows.FnExactHolesTextSaid :=
  OpenClaim.holds_of_wide 3 Tryd.f3 rfl rfl rfl rfl rfl rfl rfl ⟨rfl, rfl, rfl, rfl, rfl⟩ rfl rfl rfl rfl rfl (by kernel_rfl) Tryd.func3 facts_FnExactHolesText
    (of_decide_eq_true (by kernel_rfl)) (by unfold Func.isWrapper; first | (rw [if_pos (by decide +kernel)]; kernel_rfl) | (rw [if_neg (by decide +kernel)]; exact ⟨rfl, rfl⟩))
    (fun os started H enc _ => law_FnExactHolesText os started H enc)
theorem FnExactHolesTextCard_holds : Rows.FnExactHolesTextCardSaid :=
  Claim7.holds_tied_plain_at .later [] [.data, .data, .data] true (true, "7294dc93f653ebc4fb727c7484eae4e4097ac6d5dca45e50a6f2e540b8e0e7f1") false
    FnExactHolesText_holds (fun _ h => by cases h) (by kernel_rfl) (fun _ h => by cases h) fnExactHolesText_row_tie rfl ⟨rfl, rfl⟩ (by kernel_rfl) rfl
    (fun f fn hf hfn => by
      obtain rfl : f = 3 := Option.some.inj ((show Tryd.prog.funcNamed "loop.example/g03100/laws.FnExactHolesText" = some 3 by kernel_rfl).symm.trans hf) |>.symm
      obtain rfl : fn = Tryd.f3 := (Option.some.inj (Tryd.func3.symm.trans hfn)).symm
      exact ⟨by kernel_rfl, fun j t ht => by
        rw [Tryd.params3] at ht
        have h3 : t = 24 := by
          rcases j with _ | j
          · simpa using ht.symm
          · simp at ht
        subst h3
        exact (show Tryd.prog.wantsStandIn 24 = false by kernel_rfl)⟩)
    (by kernel_rfl)
end Go.Proofs.YtkoljbncokmeaaaDoor
