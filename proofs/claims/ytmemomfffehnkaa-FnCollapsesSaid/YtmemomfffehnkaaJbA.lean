import Derived.Test.YtmemomfffehnkaaKF
import Derived.Test.YtmemomfffehnkaaKE
namespace Go.Proofs.Ytmemomfffehnkaa
open Go Go.RowKit
set_option maxRecDepth 1000000
set_option linter.unusedSimpArgs false
set_option linter.unusedVariables false
set_option maxHeartbeats 1000000
def sc_l_big : SC := (.seq (.reg [⟨(some 2), none, (.mov (.c (.bool false)))⟩]) (.seq (.reg [⟨(some 3), none, (.mov (.t 0))⟩, ⟨(some 4), none, (.len (.t 3))⟩, ⟨(some 5), none, (.bin false .gtr (.t 4) (.c (.int .i64 1048576)))⟩, ⟨(some 2), none, (.mov (.t 5))⟩]) .ret))
theorem code_l_big : fnCode Try.prog [] 10 = some (6, sc_l_big, [(2, none)]) := by kernel_rfl
def F_l_big : List V → Option V
  | [.list 1 cells] => some (.bool (decide (1048576 < cells.length)))
  | _ => none
theorem fn_l_big : FnOk Try.prog 10 F_l_big := by
  refine fn_ok code_l_big mixed envNil_ok ?_
  intro args r h hb
  unfold F_l_big at h
  split at h
  case h_2 => simp at h
  rename_i cells
  simp only [Option.some.injEq] at h
  subst h
  refine ⟨by simp, fun w0 U0 L0 N0 => ?_⟩
  clear hb
  by_cases hl : 1048576 < cells.length
  · have hl' : (1048576 : Int) < cells.length := by omega
    simp -implicitDefEqProofs [sc_l_big, hl, hl']
    try omega
  · have hl' : ¬ ((1048576 : Int) < cells.length) := by omega
    simp -implicitDefEqProofs [sc_l_big, hl, hl']
    try omega
def sc_l_sameInts_L0 : SC := (.seq (.seq (.reg [⟨(some 11), none, (.mov (.t 5))⟩, ⟨(some 12), none, (.mov (.t 0))⟩, ⟨(some 13), none, (.len (.t 12))⟩, ⟨(some 14), none, (.bin false .lss (.t 11) (.t 13))⟩]) (.cond (.t 14) .skip (.exit 0))) (.seq (.block 1 (.seq (.dreg [⟨⟨(some 17), none, (.mov (.t 0))⟩, false, false⟩, ⟨⟨(some 18), none, (.mov (.t 5))⟩, false, false⟩, ⟨⟨(some 19), none, (.idx 1 (.t 17) (.t 18))⟩, false, false⟩, ⟨⟨(some 20), none, (.ld none (.int .i64 0) (.t 19))⟩, false, false⟩, ⟨⟨(some 21), none, (.mov (.t 1))⟩, false, false⟩, ⟨⟨(some 22), none, (.mov (.t 5))⟩, false, false⟩, ⟨⟨(some 23), none, (.idx 1 (.t 21) (.t 22))⟩, false, false⟩, ⟨⟨(some 24), none, (.ld none (.int .i64 0) (.t 23))⟩, false, false⟩, ⟨⟨(some 25), none, (.bin false .neq (.t 20) (.t 24))⟩, false, false⟩]) (.cond (.t 25) (.seq (.reg [⟨(some 4), none, (.mov (.c (.bool false)))⟩]) .ret) .skip))) (.reg [⟨(some 15), none, (.mov (.t 5))⟩, ⟨(some 16), none, (.bin false .add (.t 15) (.c (.int .i64 1)))⟩, ⟨(some 5), none, (.mov (.t 16))⟩])))
def sc_l_sameInts : SC := (.seq (.reg [⟨(some 4), none, (.mov (.c (.bool false)))⟩]) (.seq (.seq (.reg [⟨(some 6), none, (.mov (.t 0))⟩, ⟨(some 7), none, (.len (.t 6))⟩, ⟨(some 8), none, (.mov (.t 1))⟩, ⟨(some 9), none, (.len (.t 8))⟩, ⟨(some 10), none, (.bin false .neq (.t 7) (.t 9))⟩]) (.cond (.t 10) (.seq (.reg [⟨(some 4), none, (.mov (.c (.bool false)))⟩]) .ret) .skip)) (.seq (.seq (.reg [⟨(some 5), none, (.mov (.c (.int .i64 0)))⟩]) (.block 0 (.loop sc_l_sameInts_L0))) (.seq (.reg [⟨(some 4), none, (.mov (.c (.bool true)))⟩]) .ret))))
theorem code_l_sameInts : fnCode Try.prog [] 19 = some (26, sc_l_sameInts, [(4, none)]) := by kernel_rfl
noncomputable def F_l_sameInts : List V → Option V := F2 dL dL fun a b => some (.bool (dec (a = b)))
theorem fn_l_sameInts : FnOk Try.prog 19 F_l_sameInts := by
  refine fn_ok code_l_sameInts mixed envNil_ok ?_
  intro args r h hb
  obtain ⟨_, _, a, b, rfl, h1, h2, h4⟩ := F2_inv h
  cases dL_inv h1
  cases dL_inv h2
  cases h4
  clear h
  have hla := bnd_ints (hb (.list 1 (ints a)) (by simp))
  refine ⟨by simp, fun w0 U0 L0 N0 => ?_⟩
  clear hb
  generalize hv : dec (a = b) = v
  by_cases hl : a.length = b.length
  rotate_left
  · have hv1 : v = false := hv ▸ dec_false fun h => hl (by rw [h])
    have hl' : ¬ ((a.length : Int) = b.length) := by omega
    simp -implicitDefEqProofs [sc_l_sameInts, hl', hv1]
  simp -implicitDefEqProofs [sc_l_sameInts, hl]
  refine loopI envNil_ok mixed (fun k : Nat => [(0, .list 1 (ints a)), (1, .list 1 (ints b)), (5, .int .i64 (k : Int))]) (fun _ => ([], 0)) (fun k => k ≤ a.length ∧ ∀ j, j < k → at0 a j = at0 b j) (fun k => a.length - k) 0 (by simp) (SubI.slots rfl (by simp)) ?_
  rintro k ⟨hk, hI⟩
  by_cases hlt : k < a.length
  · have hlt2 : k < b.length := by omega
    by_cases he : at0 a k = at0 b k
    · simp -implicitDefEqProofs [sc_l_sameInts_L0, freeOk, hlt, hlt2, he]
      repeat' (first | omega | apply And.intro)
      refine Again.of (k + 1) ⟨by omega, fun j hj => ?_⟩ (by omega) (SubI.slots rfl (by simp (disch := omega) [wrapI]))
      rcases Nat.lt_succ_iff_lt_or_eq.1 hj with h1 | rfl
      · exact hI j h1
      · exact he
    · have hv1 : v = false := hv ▸ dec_false fun h => he (by rw [h])
      simp -implicitDefEqProofs [sc_l_sameInts_L0, freeOk, hlt, hlt2, he, hv1]
      try omega
  · have hv1 : v = true := hv ▸ dec_true (by
      refine List.ext_getElem hl fun j h1 h2 => ?_
      have := hI j (by omega)
      rwa [at0_eq h1, at0_eq h2] at this)
    have hka : k = a.length := by omega
    subst hka
    simp -implicitDefEqProofs [sc_l_sameInts_L0, hl, hv1]
def sc_l_total_L0 : SC := (.seq (.seq (.reg [⟨(some 5), none, (.mov (.t 4))⟩, ⟨(some 6), none, (.mov (.t 0))⟩, ⟨(some 7), none, (.len (.t 6))⟩, ⟨(some 8), none, (.bin false .lss (.t 5) (.t 7))⟩]) (.cond (.t 8) .skip (.exit 0))) (.seq (.block 1 (.reg [⟨(some 11), none, (.mov (.t 3))⟩, ⟨(some 12), none, (.mov (.t 0))⟩, ⟨(some 13), none, (.mov (.t 4))⟩, ⟨(some 14), none, (.idx 1 (.t 12) (.t 13))⟩, ⟨(some 15), none, (.ld none (.int .i64 0) (.t 14))⟩, ⟨(some 16), none, (.bin false .add (.t 11) (.t 15))⟩, ⟨(some 3), none, (.mov (.t 16))⟩])) (.reg [⟨(some 9), none, (.mov (.t 4))⟩, ⟨(some 10), none, (.bin false .add (.t 9) (.c (.int .i64 1)))⟩, ⟨(some 4), none, (.mov (.t 10))⟩])))
def sc_l_total : SC := (.seq (.reg [⟨(some 2), none, (.mov (.c (.int .i64 0)))⟩]) (.seq (.reg [⟨(some 3), none, (.mov (.c (.int .i64 0)))⟩]) (.seq (.seq (.reg [⟨(some 4), none, (.mov (.c (.int .i64 0)))⟩]) (.block 0 (.loop sc_l_total_L0))) (.seq (.reg [⟨(some 17), none, (.mov (.t 3))⟩, ⟨(some 2), none, (.mov (.t 17))⟩]) .ret))))
theorem code_l_total : fnCode Try.prog [] 61 = some (18, sc_l_total, [(2, none)]) := by kernel_rfl
theorem sum_take {l : List Int} {k : Nat} (h : k < l.length) : (l.take (k + 1)).sum = (l.take k).sum + at0 l k := by
  rw [at0_eq h, List.take_succ_eq_append_getElem h, List.sum_append]
  simp
theorem sum_bnd {l : List Int} (h : ∀ x ∈ l, 0 ≤ x ∧ x ≤ 64) : 0 ≤ l.sum ∧ l.sum ≤ 64 * l.length := by
  induction l with
  | nil => simp
  | cons x l ih =>
    have h1 := h x (by simp)
    have h2 := ih fun y hy => h y (by simp [hy])
    simp only [List.sum_cons, List.length_cons]
    omega
noncomputable def F_l_total : List V → Option V := F1 dL fun l => @ite _ ((∀ x ∈ l, 0 ≤ x ∧ x ≤ 64) ∧ l.length ≤ 64) (Classical.propDecidable _) (some (.int .i64 l.sum)) none
theorem fn_l_total : FnOk Try.prog 61 F_l_total := by
  refine fn_ok code_l_total mixed envNil_ok ?_
  intro args r h hb
  obtain ⟨_, l, rfl, h1, h4⟩ := F1_inv h
  cases dL_inv h1
  clear h
  simp only [Option.ite_none_right_eq_some, Option.some.injEq] at h4
  obtain ⟨⟨hx, hl⟩, rfl⟩ := h4
  refine ⟨by simp, fun w0 U0 L0 N0 => ?_⟩
  clear hb
  simp -implicitDefEqProofs [sc_l_total]
  refine loopI envNil_ok mixed (fun k : Nat => [(0, .list 1 (ints l)), (3, .int .i64 (l.take k).sum), (4, .int .i64 (k : Int))]) (fun _ => ([], 0)) (fun k => k ≤ l.length) (fun k => l.length - k) 0 (by simp) (SubI.slots rfl (by simp)) ?_
  intro k hk
  by_cases hlt : k < l.length
  · have hs := sum_take hlt
    have hb1 := sum_bnd (l := l.take (k + 1)) fun x h => hx x (List.mem_of_mem_take h)
    have hb2 : (l.take (k + 1)).length ≤ 64 := by rw [List.length_take]; omega
    have hw : IntKind.i64.wrap ((l.take k).sum + at0 l k) = (l.take (k + 1)).sum := by rw [← hs]; exact wrapI _ (by omega) (by omega)
    generalize he2 : (l.take (k + 1)).sum = s2 at *
    generalize (l.take k).sum = s1 at *
    simp -implicitDefEqProofs [sc_l_total_L0, hlt, hw]
    repeat' (first | omega | apply And.intro)
    exact Again.of (k + 1) (by omega) (by omega) (SubI.slots rfl (by simp (disch := omega) [wrapI, he2]))
  · have hka : k = l.length := by omega
    subst hka
    rw [List.take_length]
    simp -implicitDefEqProofs [sc_l_total_L0]
end Go.Proofs.Ytmemomfffehnkaa
