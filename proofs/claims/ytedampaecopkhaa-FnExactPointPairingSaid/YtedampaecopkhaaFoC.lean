import Derived.Test.YtedampaecopkhaaAbsY
import Derived.Test.YtedampaecopkhaaFnF
namespace Go.Proofs.Ytedampaecopkhaa
open Go Go.RowKit
set_option maxRecDepth 1000000
set_option linter.unusedSimpArgs false
set_option linter.unusedVariables false
set_option maxHeartbeats 1000000
def sc_l_markIntS_L0 : SC := (.seq (.seq (.reg [⟨(some 6), none, (.mov (.t 5))⟩, ⟨(some 7), none, (.mov (.t 0))⟩, ⟨(some 8), none, (.len (.t 7))⟩, ⟨(some 9), none, (.bin false .lss (.t 6) (.t 8))⟩]) (.cond (.t 9) .skip (.exit 0))) (.seq (.block 1 (.seq (.reg [⟨(some 12), none, (.mov (.t 0))⟩, ⟨(some 13), none, (.mov (.t 5))⟩, ⟨(some 14), none, (.mov (.t 1))⟩, ⟨(some 15), none, (.idx 1 (.t 12) (.t 13))⟩, ⟨none, none, (.st 1 (.t 15) (.t 14))⟩]) (.reg [⟨(some 16), none, (.mov (.t 1))⟩, ⟨(some 17), none, (.bin false .add (.t 16) (.c (.int .i64 1)))⟩, ⟨(some 1), none, (.mov (.t 17))⟩]))) (.reg [⟨(some 10), none, (.mov (.t 5))⟩, ⟨(some 11), none, (.bin false .add (.t 10) (.c (.int .i64 1)))⟩, ⟨(some 5), none, (.mov (.t 11))⟩])))
def sc_l_markIntS : SC := (.seq (.reg [⟨(some 4), none, (.mov (.c (.int .i64 0)))⟩]) (.seq (.seq (.reg [⟨(some 5), none, (.mov (.c (.int .i64 0)))⟩]) (.block 0 (.loop sc_l_markIntS_L0))) (.seq (.reg [⟨(some 18), none, (.mov (.t 1))⟩, ⟨(some 4), none, (.mov (.t 18))⟩]) .ret)))
theorem code_l_markIntS : fnCode Try.prog [] 28 = some (19, sc_l_markIntS, [(4, none)]) := by kernel_rfl
/-- The numbers from k on. -/
def marks (k : Int) (n : Nat) : List Int := (List.range n).map fun (i : Nat) => k + (i : Int)
@[simp] theorem marks_len (k : Int) (n : Nat) : (marks k n).length = n := by simp [marks]
@[simp] theorem marks_take (k : Int) (n : Nat) : (marks k n).take n = marks k n := List.take_of_length_le (by simp)
theorem at0_marks {k : Int} {n j : Nat} (h : j < n) : at0 (marks k n) j = k + j := by simp [marks, at0, h]
theorem marks_step {k : Int} {l : List Int} {i : Nat} (h : i < l.length) : (marks k i ++ l.drop i).set i (k + i) = marks k (i + 1) ++ l.drop (i + 1) := by
  apply at0_ext
  · simp; omega
  · intro j hj
    simp only [List.length_set, List.length_append, marks_len, List.length_drop] at hj
    rw [at0_set, at0_app, at0_app]
    simp only [marks_len, List.length_append, List.length_drop]
    by_cases e : i = j
    · subst e
      rw [if_pos ⟨rfl, by omega⟩, if_pos (by omega), at0_marks (by omega)]
    · rw [if_neg (by omega)]
      by_cases h1 : j < i
      · rw [if_pos h1, if_pos (by omega), at0_marks h1, at0_marks (by omega)]
      · rw [if_neg h1, if_neg (by omega), at0_drop, at0_drop]
        congr 1
        omega
noncomputable def markG (len : Nat) (k : Int) (cells : List V) : Option (V × List V) := (dInts cells).bind fun l => @ite _ (l.length = len ∧ 0 ≤ k ∧ k + len < 4611686018427387904) (Classical.propDecidable _) (some (.int .i64 (k + len), ints (marks k len))) none
theorem markG_of {l : List Int} {len : Nat} {k : Int} (h1 : l.length = len) (h2 : 0 ≤ k) (h3 : k + len < 4611686018427387904) : markG len k (ints l) = some (.int .i64 (k + len), ints (marks k len)) := by
  unfold markG
  rw [dInts_ints, Option.bind_some, if_pos ⟨h1, h2, h3⟩]
noncomputable def G_l_markIntS : List V → List V → Option (V × List V)
  | [.sl 0 1 0 len, .int .i64 k], cells => markG len k cells
  | _, _ => none
theorem ln_l_markIntS : LendOk Try.prog 28 0 G_l_markIntS := by
  refine fn_lend code_l_markIntS mixed envNil_ok ?_
  intro args cells r cells' hG hb
  unfold G_l_markIntS at hG
  split at hG
  case h_2 => simp at hG
  rename_i len k
  unfold markG at hG
  obtain ⟨l, h1, h2⟩ := Option.bind_eq_some_iff.1 hG
  have hc := dInts_inv h1
  subst hc
  simp only [Option.ite_none_right_eq_some, Option.some.injEq, Prod.mk.injEq] at h2
  obtain ⟨⟨rfl, hk, hk2⟩, rfl, rfl⟩ := h2
  refine ⟨by simp, fun w0 U0 L0 N0 => ?_⟩
  simp -implicitDefEqProofs [sc_l_markIntS]
  refine loopI envNil_ok mixed (fun i : Nat => [(0, .sl 0 1 0 l.length), (1, .int .i64 (k + (i : Int))), (5, .int .i64 (i : Int))]) (fun i => ([(0, ints (marks k i ++ l.drop i))], 1)) (fun i => i ≤ l.length) (fun i => l.length - i) 0 (by simp) (SubI.slots (by simp [marks]) (by simp)) ?_
  intro i hi
  by_cases hlt : i < l.length
  · have hw1 : IntKind.i64.wrap (k + (i : Int)) = k + i := wrapI _ (by omega) (by omega)
    have hw2 : IntKind.i64.wrap (k + (i : Int) + 1) = k + ((i + 1 : Nat) : Int) := by rw [wrapI _ (by omega) (by omega)]; omega
    have hms := marks_step (k := k) hlt
    simp -implicitDefEqProofs [sc_l_markIntS_L0, hlt, hw1, hw2, hms]
    repeat' (first | omega | apply And.intro)
    exact Again.of (i + 1) (by omega) (by omega) (SubI.slots (by simp) (by simp (disch := omega) [wrapI]))
  · have : i = l.length := by omega
    subst this
    simp -implicitDefEqProofs [sc_l_markIntS_L0]
    try simp
def sc_l_heldIntS_L0 : SC := (.seq (.seq (.reg [⟨(some 6), none, (.mov (.t 5))⟩, ⟨(some 7), none, (.mov (.t 0))⟩, ⟨(some 8), none, (.len (.t 7))⟩, ⟨(some 9), none, (.bin false .lss (.t 6) (.t 8))⟩]) (.cond (.t 9) .skip (.exit 0))) (.seq (.block 1 (.seq (.seq (.reg [⟨(some 12), none, (.mov (.t 0))⟩, ⟨(some 13), none, (.mov (.t 5))⟩, ⟨(some 14), none, (.idx 1 (.t 12) (.t 13))⟩, ⟨(some 15), none, (.ld none (.int .i64 0) (.t 14))⟩, ⟨(some 16), none, (.mov (.t 1))⟩, ⟨(some 17), none, (.bin false .neq (.t 15) (.t 16))⟩]) (.cond (.t 17) (.seq (.reg [⟨(some 4), none, (.mov (.c (.int .i64 (-1))))⟩]) .ret) .skip)) (.reg [⟨(some 18), none, (.mov (.t 1))⟩, ⟨(some 19), none, (.bin false .add (.t 18) (.c (.int .i64 1)))⟩, ⟨(some 1), none, (.mov (.t 19))⟩]))) (.reg [⟨(some 10), none, (.mov (.t 5))⟩, ⟨(some 11), none, (.bin false .add (.t 10) (.c (.int .i64 1)))⟩, ⟨(some 5), none, (.mov (.t 11))⟩])))
def sc_l_heldIntS : SC := (.seq (.reg [⟨(some 4), none, (.mov (.c (.int .i64 0)))⟩]) (.seq (.seq (.reg [⟨(some 5), none, (.mov (.c (.int .i64 0)))⟩]) (.block 0 (.loop sc_l_heldIntS_L0))) (.seq (.reg [⟨(some 20), none, (.mov (.t 1))⟩, ⟨(some 4), none, (.mov (.t 20))⟩]) .ret)))
theorem code_l_heldIntS : fnCode Try.prog [] 29 = some (21, sc_l_heldIntS, [(4, none)]) := by kernel_rfl
/-- For the numbers that a mark left. -/
noncomputable def heldG (l : List Int) (k : Int) : Option V := @ite _ (0 ≤ k ∧ k + l.length < 4611686018427387904 ∧ l = marks k l.length) (Classical.propDecidable _) (some (.int .i64 (k + l.length))) none
theorem heldG_of {k : Int} {n : Nat} (h1 : 0 ≤ k) (h2 : k + n < 4611686018427387904) : heldG (marks k n) k = some (.int .i64 (k + n)) := by
  unfold heldG
  rw [marks_len, if_pos ⟨h1, h2, rfl⟩]
noncomputable def F_l_heldIntS : List V → Option V := F2 dL dI heldG
theorem fn_l_heldIntS : FnOk Try.prog 29 F_l_heldIntS := by
  refine fn_ok code_l_heldIntS mixed envNil_ok ?_
  intro args r h hb
  obtain ⟨_, _, l, k, rfl, h1, h2, h4⟩ := F2_inv h
  cases dL_inv h1
  cases dI_inv h2
  clear h
  simp only [heldG, Option.ite_none_right_eq_some, Option.some.injEq] at h4
  obtain ⟨⟨hk, hk2, hl⟩, rfl⟩ := h4
  refine ⟨by simp, fun w0 U0 L0 N0 => ?_⟩
  have hat : ∀ i, i < l.length → at0 l i = k + i := fun i hi => by rw [hl, at0_marks hi]
  clear hl
  simp -implicitDefEqProofs [sc_l_heldIntS]
  refine loopI envNil_ok mixed (fun i : Nat => [(0, .list 1 (ints l)), (1, .int .i64 (k + (i : Int))), (5, .int .i64 (i : Int))]) (fun i => ([], 0)) (fun i => i ≤ l.length) (fun i => l.length - i) 0 (by simp) (SubI.slots rfl (by simp)) ?_
  intro i hi
  by_cases hlt : i < l.length
  · have hw1 : IntKind.i64.wrap (k + (i : Int)) = k + i := wrapI _ (by omega) (by omega)
    have hw2 : IntKind.i64.wrap (k + (i : Int) + 1) = k + ((i + 1 : Nat) : Int) := by rw [wrapI _ (by omega) (by omega)]; omega
    have ha := hat i hlt
    simp -implicitDefEqProofs [sc_l_heldIntS_L0, hlt, hw1, hw2, ha]
    repeat' (first | omega | apply And.intro)
    exact Again.of (i + 1) (by omega) (by omega) (SubI.slots rfl (by simp (disch := omega) [wrapI]))
  · have : i = l.length := by omega
    subst this
    simp -implicitDefEqProofs [sc_l_heldIntS_L0]
def sc_l_markComplex : SC := (.seq (.reg [⟨(some 2), none, (.box (.t 0))⟩, ⟨(some 4), none, (.mov (.c (.int .i64 0)))⟩]) (.seq (.reg [⟨(some 5), none, (.fad 1 (.t 2))⟩, ⟨(some 6), none, (.ld none .nil (.t 5))⟩, ⟨(some 7), none, (.mov (.t 1))⟩, ⟨(some 8), none, (.call 28 [(.t 6), (.t 7)])⟩, ⟨(some 1), none, (.mov (.t 8))⟩]) (.seq (.reg [⟨(some 9), none, (.mov (.t 1))⟩, ⟨(some 4), none, (.mov (.t 9))⟩]) .ret)))
theorem code_l_markComplex : fnCode Try.prog [] 27 = some (10, sc_l_markComplex, [(4, none)]) := by kernel_rfl
noncomputable def G_l_markComplex : List V → List V → Option (V × List V)
  | [.agg [.int .i64 _, .sl 0 1 0 len], .int .i64 k], cells => markG len k cells
  | _, _ => none
theorem ln_l_markComplex : LendOk Try.prog 27 0 G_l_markComplex := by
  have env := (envNil_ok (P := Try.prog)).addl ln_l_markIntS
  refine fn_lend code_l_markComplex mixed env ?_
  intro args cells r cells' hG hb
  unfold G_l_markComplex at hG
  split at hG
  case h_2 => simp at hG
  rename_i n len k
  have hG' := hG
  unfold markG at hG
  obtain ⟨l, h1, h2⟩ := Option.bind_eq_some_iff.1 hG
  have hc := dInts_inv h1
  subst hc
  simp only [Option.ite_none_right_eq_some, Option.some.injEq, Prod.mk.injEq] at h2
  obtain ⟨⟨rfl, hk, hk2⟩, rfl, rfl⟩ := h2
  refine ⟨by simp, fun w0 U0 L0 N0 => ?_⟩
  simp -implicitDefEqProofs [sc_l_markComplex, G_l_markIntS, hG', ren0]
end Go.Proofs.Ytedampaecopkhaa
