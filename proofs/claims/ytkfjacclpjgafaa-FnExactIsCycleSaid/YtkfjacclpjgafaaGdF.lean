import Derived.Test.YtkfjacclpjgafaaGcF
namespace Go.Proofs.Ytkfjacclpjgafaa
open Go Go.RowKit
set_option maxRecDepth 1000000
set_option linter.unusedSimpArgs false
set_option linter.unusedVariables false
set_option maxHeartbeats 1000000
def sc_s_l16Zero_L0 : SC := (.seq (.seq (.reg [⟨(some 4), none, (.mov (.t 3))⟩, ⟨(some 5), none, (.mov (.t 0))⟩, ⟨(some 6), none, (.len (.t 5))⟩, ⟨(some 7), none, (.bin false .lss (.t 4) (.t 6))⟩]) (.cond (.t 7) .skip (.exit 0))) (.seq (.block 1 (.seq (.reg [⟨(some 10), none, (.mov (.t 0))⟩, ⟨(some 11), none, (.mov (.t 3))⟩, ⟨(some 12), none, (.idx 1 (.t 10) (.t 11))⟩, ⟨(some 13), none, (.ld none (.int .i64 0) (.t 12))⟩, ⟨(some 14), none, (.bin false .neq (.t 13) (.c (.int .i64 0)))⟩]) (.cond (.t 14) (.seq (.reg [⟨(some 2), none, (.mov (.c (.bool false)))⟩]) .ret) .skip))) (.reg [⟨(some 8), none, (.mov (.t 3))⟩, ⟨(some 9), none, (.bin false .add (.t 8) (.c (.int .i64 1)))⟩, ⟨(some 3), none, (.mov (.t 9))⟩])))
def sc_s_l16Zero : SC := (.seq (.reg [⟨(some 2), none, (.mov (.c (.bool false)))⟩]) (.seq (.seq (.reg [⟨(some 3), none, (.mov (.c (.int .i64 0)))⟩]) (.block 0 (.loop sc_s_l16Zero_L0))) (.seq (.reg [⟨(some 2), none, (.mov (.c (.bool true)))⟩]) .ret)))
theorem code_s_l16Zero : fnCode Try.prog [] 106 = some (15, sc_s_l16Zero, [(2, none)]) := by kernel_rfl
def zerP (x : List Int) : Prop := ∀ j, j < x.length → at0 x j = 0
noncomputable def F_s_l16Zero : List V → Option V := F1 dL fun x => some (.bool (dec (zerP x)))
theorem fn_s_l16Zero : FnOk Try.prog 106 F_s_l16Zero := by
  refine fn_ok code_s_l16Zero mixed envNil_ok ?_
  intro args r h hb
  obtain ⟨_, x, rfl, h1, h4⟩ := F1_inv h
  cases dL_inv h1
  cases h4
  clear h
  have hlen := bnd_ints (hb (.list 1 (ints x)) (by simp))
  refine ⟨by simp, fun w0 U0 L0 N0 => ?_⟩
  clear hb
  generalize hv : dec (zerP x) = v
  simp -implicitDefEqProofs [sc_s_l16Zero]
  refine loopI envNil_ok mixed (fun k : Nat => [(0, .list 1 (ints x)), (3, .int .i64 (k : Int))]) (fun _ => ([], 0)) (fun k => k ≤ x.length ∧ ∀ j, j < k → at0 x j = 0) (fun k => x.length - k) 0 (by simp) (SubI.slots (by simp) (by simp)) ?_
  rintro k ⟨hk, hI⟩
  by_cases hlt : k < x.length
  · by_cases h1 : at0 x k = 0
    · simp -implicitDefEqProofs [sc_s_l16Zero_L0, hlt, h1]
      repeat' (first | omega | apply And.intro)
      refine Again.of (k + 1) ⟨by omega, fun j hj => ?_⟩ (by omega) (SubI.slots rfl (by simp (disch := omega) [wrapI]))
      rcases Nat.lt_succ_iff_lt_or_eq.1 hj with h | rfl
      · exact hI j h
      · exact h1
    · have hv1 : v = false := hv ▸ dec_false fun h => h1 (h k hlt)
      simp -implicitDefEqProofs [sc_s_l16Zero_L0, hlt, h1, hv1]
      try omega
  · have : k = x.length := by omega
    subst this
    have hv1 : v = true := hv ▸ dec_true hI
    simp -implicitDefEqProofs [sc_s_l16Zero_L0, hv1]
def sc_i_isZeroList_L0 : SC := (.seq (.reg [⟨(some 8), none, (.bin false .lss (.t 7) (.t 6))⟩]) (.seq (.cond (.t 8) .skip (.exit 0)) (.seq (.block 1 (.seq (.reg [⟨(some 9), none, (.idx 1 (.t 5) (.t 7))⟩, ⟨(some 10), none, (.ld none (.int .i64 0) (.t 9))⟩, ⟨(some 4), none, (.mov (.t 10))⟩]) (.seq (.reg [⟨(some 11), none, (.mov (.t 4))⟩, ⟨(some 12), none, (.bin false .neq (.t 11) (.c (.int .i64 0)))⟩]) (.cond (.t 12) (.seq (.reg [⟨(some 2), none, (.mov (.c (.bool false)))⟩]) .ret) .skip)))) (.reg [⟨(some 13), none, (.bin false .add (.t 7) (.c (.int .i64 1)))⟩, ⟨(some 7), none, (.mov (.t 13))⟩]))))
def sc_i_isZeroList : SC := (.seq (.reg [⟨(some 2), none, (.mov (.c (.bool false)))⟩]) (.seq (.seq (.reg [⟨(some 5), none, (.mov (.t 0))⟩, ⟨(some 6), none, (.len (.t 5))⟩, ⟨(some 7), none, (.mov (.c (.int .i64 0)))⟩]) (.block 0 (.loop sc_i_isZeroList_L0))) (.seq (.reg [⟨(some 2), none, (.mov (.c (.bool true)))⟩]) .ret)))
theorem code_i_isZeroList : fnCode Try.prog [] 107 = some (14, sc_i_isZeroList, [(2, none)]) := by kernel_rfl
theorem fn_i_isZeroList : FnOk Try.prog 107 F_s_l16Zero := by
  refine fn_ok code_i_isZeroList mixed envNil_ok ?_
  intro args r h hb
  obtain ⟨_, x, rfl, h1, h4⟩ := F1_inv h
  cases dL_inv h1
  cases h4
  clear h
  have hlen := bnd_ints (hb (.list 1 (ints x)) (by simp))
  refine ⟨by simp, fun w0 U0 L0 N0 => ?_⟩
  clear hb
  generalize hv : dec (zerP x) = v
  simp -implicitDefEqProofs [sc_i_isZeroList]
  refine loopI envNil_ok mixed (fun k : Nat => [(5, .list 1 (ints x)), (6, .int .i64 (x.length : Int)), (7, .int .i64 (k : Int))]) (fun _ => ([], 0)) (fun k => k ≤ x.length ∧ ∀ j, j < k → at0 x j = 0) (fun k => x.length - k) 0 (by simp) (SubI.slots (by simp) (by simp)) ?_
  rintro k ⟨hk, hI⟩
  by_cases hlt : k < x.length
  · by_cases h1 : at0 x k = 0
    · simp -implicitDefEqProofs [sc_i_isZeroList_L0, hlt, h1]
      repeat' (first | omega | apply And.intro)
      refine Again.of (k + 1) ⟨by omega, fun j hj => ?_⟩ (by omega) (SubI.slots rfl (by simp (disch := omega) [wrapI]))
      rcases Nat.lt_succ_iff_lt_or_eq.1 hj with h | rfl
      · exact hI j h
      · exact h1
    · have hv1 : v = false := hv ▸ dec_false fun h => h1 (h k hlt)
      simp -implicitDefEqProofs [sc_i_isZeroList_L0, hlt, h1, hv1]
      try omega
  · have : k = x.length := by omega
    subst this
    have hv1 : v = true := hv ▸ dec_true hI
    simp -implicitDefEqProofs [sc_i_isZeroList_L0, hv1]
end Go.Proofs.Ytkfjacclpjgafaa
