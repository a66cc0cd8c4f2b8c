import Derived.Test.YtkbgmkkboiihnaaIbF
namespace Go.Proofs.Ytkbgmkkboiihnaa
open Go Go.RowKit
set_option maxRecDepth 1000000
set_option linter.unusedSimpArgs false
set_option linter.unusedVariables false
set_option maxHeartbeats 1000000
def sc_slices_insertionSortOrdered_int_L2 : SC := (.seq (.seq (.dreg [⟨⟨(some 16), none, (.mov (.t 7))⟩, false, false⟩, ⟨⟨(some 17), none, (.mov (.t 1))⟩, false, false⟩, ⟨⟨(some 18), none, (.bin false .gtr (.t 16) (.t 17))⟩, false, false⟩, ⟨⟨(some 19), none, (.mov (.t 18))⟩, false, false⟩, ⟨⟨(some 20), (some (19, true)), (.mov (.t 0))⟩, false, false⟩, ⟨⟨(some 21), (some (19, true)), (.mov (.t 7))⟩, false, false⟩, ⟨⟨(some 22), (some (19, true)), (.idx 1 (.t 20) (.t 21))⟩, false, false⟩, ⟨⟨(some 23), (some (19, true)), (.ld none (.int .i64 0) (.t 22))⟩, false, false⟩, ⟨⟨(some 24), (some (19, true)), (.mov (.t 0))⟩, false, false⟩, ⟨⟨(some 25), (some (19, true)), (.mov (.t 7))⟩, false, false⟩, ⟨⟨(some 26), (some (19, true)), (.bin false .sub (.t 25) (.c (.int .i64 1)))⟩, false, false⟩, ⟨⟨(some 27), (some (19, true)), (.idx 1 (.t 24) (.t 26))⟩, false, false⟩, ⟨⟨(some 28), (some (19, true)), (.ld none (.int .i64 0) (.t 27))⟩, false, false⟩, ⟨⟨(some 29), (some (19, true)), (.call 89 [(.t 23), (.t 28)])⟩, false, false⟩, ⟨⟨(some 30), none, (.pick (.t 19) (.t 29) (.c (.bool false)))⟩, false, false⟩]) (.cond (.t 30) .skip (.exit 2))) (.seq (.block 3 (.dreg [⟨⟨(some 33), none, (.mov (.t 0))⟩, false, false⟩, ⟨⟨(some 34), none, (.mov (.t 7))⟩, false, false⟩, ⟨⟨(some 35), none, (.mov (.t 0))⟩, false, true⟩, ⟨⟨(some 36), none, (.mov (.t 7))⟩, false, true⟩, ⟨⟨(some 37), none, (.bin false .sub (.t 36) (.c (.int .i64 1)))⟩, false, true⟩, ⟨⟨(some 38), none, (.mov (.t 0))⟩, false, false⟩, ⟨⟨(some 39), none, (.mov (.t 7))⟩, false, false⟩, ⟨⟨(some 40), none, (.bin false .sub (.t 39) (.c (.int .i64 1)))⟩, false, false⟩, ⟨⟨(some 41), none, (.idx 1 (.t 38) (.t 40))⟩, false, false⟩, ⟨⟨(some 42), none, (.ld none (.int .i64 0) (.t 41))⟩, false, false⟩, ⟨⟨(some 43), none, (.mov (.t 0))⟩, false, false⟩, ⟨⟨(some 44), none, (.mov (.t 7))⟩, false, false⟩, ⟨⟨(some 45), none, (.idx 1 (.t 43) (.t 44))⟩, false, false⟩, ⟨⟨(some 46), none, (.ld none (.int .i64 0) (.t 45))⟩, false, false⟩, ⟨⟨(some 47), none, (.idx 1 (.t 33) (.t 34))⟩, false, false⟩, ⟨⟨none, none, (.st 1 (.t 47) (.t 42))⟩, true, false⟩, ⟨⟨(some 48), none, (.idx 1 (.t 35) (.t 37))⟩, false, false⟩, ⟨⟨none, none, (.st 1 (.t 48) (.t 46))⟩, true, false⟩])) (.reg [⟨(some 31), none, (.mov (.t 7))⟩, ⟨(some 32), none, (.bin false .sub (.t 31) (.c (.int .i64 1)))⟩, ⟨(some 7), none, (.mov (.t 32))⟩])))
def sc_slices_insertionSortOrdered_int_L0 : SC := (.seq (.seq (.reg [⟨(some 10), none, (.mov (.t 6))⟩, ⟨(some 11), none, (.mov (.t 2))⟩, ⟨(some 12), none, (.bin false .lss (.t 10) (.t 11))⟩]) (.cond (.t 12) .skip (.exit 0))) (.seq (.block 1 (.seq (.reg [⟨(some 15), none, (.mov (.t 6))⟩, ⟨(some 7), none, (.mov (.t 15))⟩]) (.block 2 (.loop sc_slices_insertionSortOrdered_int_L2)))) (.reg [⟨(some 13), none, (.mov (.t 6))⟩, ⟨(some 14), none, (.bin false .add (.t 13) (.c (.int .i64 1)))⟩, ⟨(some 6), none, (.mov (.t 14))⟩])))
def sc_slices_insertionSortOrdered_int : SC := (.seq (.reg [⟨(some 8), none, (.mov (.t 1))⟩, ⟨(some 9), none, (.bin false .add (.t 8) (.c (.int .i64 1)))⟩, ⟨(some 6), none, (.mov (.t 9))⟩]) (.block 0 (.loop sc_slices_insertionSortOrdered_int_L0)))
theorem code_slices_insertionSortOrdered_int : fnCode Try.prog [] 83 = some (49, sc_slices_insertionSortOrdered_int, []) := by kernel_rfl
/-- A short list of different sets is put in order. -/
noncomputable def G_ins : List V → List V → Option (V × List V)
  | [.sl 0 1 0 m, .int .i64 a, .int .i64 b], cells => (dInts cells).bind fun x =>
      @ite _ (m = x.length ∧ a = 0 ∧ b = x.length ∧ x.Nodup ∧ allS x ∧ x.length ≤ 12) (Classical.propDecidable _) (some (.tup [], ints (srt x))) none
  | _, _ => none
theorem ln_ins : LendOk Try.prog 83 0 G_ins := by
  have env := (envNil_ok (P := Try.prog)).add fn_Less
  refine fn_lend code_slices_insertionSortOrdered_int mixed env ?_
  intro args cells r cells' hG hb
  unfold G_ins at hG
  split at hG
  case h_2 => simp at hG
  rename_i m a b
  obtain ⟨x, h1, hG1⟩ := Option.bind_eq_some_iff.1 hG
  have hc := dInts_inv h1
  subst hc
  simp only [Option.ite_none_right_eq_some, Option.some.injEq, Prod.mk.injEq] at hG1
  obtain ⟨⟨rfl, rfl, rfl, hn, hS, h12⟩, rfl, rfl⟩ := hG1
  clear hG h1 hb
  refine ⟨by simp, fun w0 U0 L0 N0 => ?_⟩
  have h0 := isI_start hn
  have hend := fun (y : List Int) (i j : Nat) (h : isI x y i j) => isI_end h
  generalize hsr : srt x = sx at *
  have hw11 : IntKind.i64.wrap 1 = 1 := wrapI _ (by omega) (by omega)
  simp -implicitDefEqProofs [sc_slices_insertionSortOrdered_int]
  refine loopI env mixed (fun s : Nat × List Int => [(0, .sl 0 1 0 x.length), (1, .int .i64 0), (2, .int .i64 (x.length : Int)), (6, .int .i64 (s.1 : Int))]) (fun s => ([(0, ints s.2)], 1)) (fun s => 1 ≤ s.1 ∧ isI x s.2 s.1 s.1 ∧ (s.1 ≤ x.length ∨ s.1 = 1)) (fun s => x.length - s.1) (1, x) ⟨by simp, h0, .inr rfl⟩ (SubI.slots (by simp) (by simp [hw11])) ?_
  rintro ⟨i, y⟩ ⟨hi1, hI, hil⟩
  simp only at hi1 hI hil ⊢
  have hyl := hI.l
  by_cases hlt : i < x.length
  rotate_left
  · have e : y = sx := by
      by_cases h1 : i = x.length
      · exact hend y i i hI (by omega) (Nat.le_refl _) hS
      · have hx0 : x.length = 0 := by omega
        have hx : x = [] := List.length_eq_zero_iff.1 hx0
        have hy : y = [] := List.length_eq_zero_iff.1 (by omega)
        rw [← hsr, hy, hx]
        exact (List.length_eq_zero_iff.1 (by have := srt_len (l := ([] : List Int)) (fun x hx => by simp at hx); simpa using this)).symm
    subst e
    simp -implicitDefEqProofs [sc_slices_insertionSortOrdered_int_L0, hlt]
  have hin := isI_next hI
  simp -implicitDefEqProofs [sc_slices_insertionSortOrdered_int_L0, hlt]
  refine loopI env mixed (fun s : Nat × List Int => [(0, .sl 0 1 0 x.length), (1, .int .i64 0), (2, .int .i64 (x.length : Int)), (6, .int .i64 (i : Int)), (7, .int .i64 (s.1 : Int))]) (fun s => ([(0, ints s.2)], 1)) (fun s => s.1 ≤ i ∧ isI x s.2 (i + 1) s.1) (fun s => s.1) (i, y) ⟨Nat.le_refl _, hin⟩ (SubI.slots (by simp) (by simp)) ?_
  rintro ⟨j, z⟩ ⟨hji, hJ⟩
  simp only at hji hJ ⊢
  have hzl := hJ.l
  have done : (j = 0 ∨ ¬ at0 z j < at0 z (j - 1)) → isI x z (i + 1) (i + 1) := fun h => isI_done hJ (by omega) (by omega) h (i + 1)
  by_cases hj0 : 0 < j
  rotate_left
  · have hd := done (.inl (by omega))
    have hj : j = 0 := by omega
    subst hj
    simp -implicitDefEqProofs [sc_slices_insertionSortOrdered_int_L2]
    repeat' (first | omega | apply And.intro)
    exact Again.of (i + 1, z) ⟨by simp only; omega, hd, .inl (by simp only; omega)⟩ (by simp only; omega) (SubI.slots (by simp) (by simp (disch := omega) [wrapI]))
  obtain ⟨q, rfl⟩ : ∃ q, j = q + 1 := ⟨j - 1, by omega⟩
  have hq1 : q + 1 < z.length := by omega
  have hq2 : q < z.length := by omega
  have hqx : q + 1 < x.length := by omega
  have hqx2 : q < x.length := by omega
  have hw : IntKind.i64.wrap (((q + 1 : Nat) : Int) - 1) = (q : Int) := by rw [wrapI _ (by omega) (by omega)]; omega
  have hw' : IntKind.i64.wrap ((q : Int) + 1 - 1) = (q : Int) := by rw [wrapI _ (by omega) (by omega)]; omega
  have hw2 : IntKind.i64.wrap (q : Int) = (q : Int) := wrapI _ (by omega) (by omega)
  have hpos : (0 : Int) < (q : Int) + 1 := by omega
  by_cases hls : at0 z (q + 1) < at0 z q
  rotate_left
  · have hd := done (.inr (by simpa using hls))
    simp -implicitDefEqProofs [sc_slices_insertionSortOrdered_int_L2, freeOk, F_Less, hpos, hw', hw2, hq1, hq2, hqx, hqx2, hls]
    repeat' (first | omega | apply And.intro)
    exact Again.of (i + 1, z) ⟨by simp only; omega, hd, .inl (by simp only; omega)⟩ (by simp only; omega) (SubI.slots (by simp) (by simp (disch := omega) [wrapI]))
  have hsw := isI_swap hJ (by omega) (by omega) (by omega) (by simpa using hls)
  have hse : swL z (q + 1) = (z.set (q + 1) (at0 z q)).set q (at0 z (q + 1)) := rfl
  rw [hse] at hsw
  simp only [Nat.add_sub_cancel] at hsw
  simp -implicitDefEqProofs [sc_slices_insertionSortOrdered_int_L2, freeOk, F_Less, hpos, hw', hw2, hq1, hq2, hqx, hqx2, hls]
  repeat' (first | omega | apply And.intro)
  exact Again.of (q, (z.set (q + 1) (at0 z q)).set q (at0 z (q + 1))) ⟨by simp only; omega, hsw⟩ (by simp only; omega) (SubI.slots (by simp) (by simp (disch := omega) [wrapI]))
end Go.Proofs.Ytkbgmkkboiihnaa
