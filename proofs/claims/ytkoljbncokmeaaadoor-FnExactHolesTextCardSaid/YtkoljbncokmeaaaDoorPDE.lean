import Derived.Test.YtkoljbncokmeaaaDoorPDC
namespace Go.Proofs.YtkoljbncokmeaaaDoor
open Go Go.RowKit
set_option maxRecDepth 1000000
set_option linter.unusedSimpArgs false
set_option linter.unusedVariables false
set_option maxHeartbeats 1000000
theorem getD_mem_iff {l : List Int} {n : Int} : n ∈ l ↔ ∃ j, j < l.length ∧ at0 l j = n := by
  constructor
  · intro h
    obtain ⟨j, hj, e⟩ := List.getElem_of_mem h
    exact ⟨j, hj, by rw [at0_eq hj, e]⟩
  · rintro ⟨j, hj, e⟩
    rw [at0_eq hj] at e
    exact e ▸ List.getElem_mem hj
theorem getD_mem' {l : List Int} {j : Nat} (hj : j < l.length) : at0 l j ∈ l := getD_mem_iff.2 ⟨j, hj, rfl⟩
/-- The bits of a number, by fuel. -/
def pcF : Nat → Nat → Nat
  | 0, _ => 0
  | f + 1, n => n % 2 + pcF f (n / 2)
def pc (n : Nat) : Nat := pcF 64 n
theorem pcF_zero (f : Nat) : pcF f 0 = 0 := by
  induction f with
  | zero => rfl
  | succ f ih => simp [pcF, ih]
theorem pcF_le (f n : Nat) : pcF f n ≤ f := by
  induction f generalizing n with
  | zero => simp [pcF]
  | succ f ih => have := ih (n / 2); simp only [pcF]; omega
theorem pc_le (n : Nat) : pc n ≤ 64 := pcF_le 64 n
/-- The size of a set; below zero it is the size of nothing. -/
def sz (s : Int) : Int := (pc s.toNat : Nat)
theorem sz_nn (s : Int) : 0 ≤ sz s := by unfold sz; omega
def isSet (n s : Int) : Bool := decide (0 ≤ n ∧ n ≤ 6 ∧ 0 ≤ s ∧ s < 2 ^ n.toNat)
theorem isSet_pos {n s : Int} (h : isSet n s = true) : 0 ≤ s ∧ s < 64 := by
  simp only [isSet, decide_eq_true_eq] at h
  obtain ⟨h1, h2, h3, h4⟩ := h
  have : n = 0 ∨ n = 1 ∨ n = 2 ∨ n = 3 ∨ n = 4 ∨ n = 5 ∨ n = 6 := by omega
  rcases this with rfl | rfl | rfl | rfl | rfl | rfl | rfl <;> simp at h4 <;> omega
def before (a b : Int) : Bool := decide (sz a < sz b ∨ (sz a = sz b ∧ a < b))
def sc_s_l1In : SC := (.seq (.reg [⟨(some 6), none, (.mov (.c (.bool false)))⟩]) (.seq (.reg [⟨(some 7), none, (.mov (.t 0))⟩, ⟨(some 8), none, (.mov (.t 1))⟩, ⟨(some 9), none, (.bin false .geq (.t 7) (.t 8))⟩, ⟨(some 10), none, (.mov (.t 9))⟩, ⟨(some 11), (some (10, true)), (.mov (.t 0))⟩, ⟨(some 12), (some (10, true)), (.mov (.t 2))⟩, ⟨(some 13), (some (10, true)), (.bin false .leq (.t 11) (.t 12))⟩, ⟨(some 14), none, (.pick (.t 10) (.t 13) (.c (.bool false)))⟩, ⟨(some 6), none, (.mov (.t 14))⟩]) .ret))
theorem code_s_l1In : fnCode Tryd.prog [] 24 = some (15, sc_s_l1In, [(6, none)]) := by kernel_rfl
def F_s_l1In : List V → Option V := F3 dI dI dI fun x a b => some (.bool (decide (a ≤ x ∧ x ≤ b)))
theorem fn_s_l1In : FnOk Tryd.prog 24 F_s_l1In := by
  refine fn_ok code_s_l1In mixed envNil_ok ?_
  intro args r h hb
  obtain ⟨_, _, _, x, a, b, rfl, h1, h2, h3, h4⟩ := F3_inv h
  cases dI_inv h1
  cases dI_inv h2
  cases dI_inv h3
  cases h4
  refine ⟨by simp, fun w0 U0 L0 N0 => ?_⟩
  simp -implicitDefEqProofs [sc_s_l1In]
  omega
def sc_s_IsSet : SC := (.seq (.reg [⟨(some 4), none, (.mov (.c (.bool false)))⟩]) (.seq (.reg [⟨(some 5), none, (.mov (.t 0))⟩, ⟨(some 6), none, (.call 24 [(.t 5), (.c (.int .i64 0)), (.c (.int .i64 6))])⟩, ⟨(some 7), none, (.mov (.t 6))⟩, ⟨(some 8), (some (7, true)), (.mov (.t 1))⟩, ⟨(some 9), (some (7, true)), (.mov (.t 0))⟩, ⟨(some 10), (some (7, true)), (.conv .u64 (.t 9))⟩, ⟨(some 11), (some (7, true)), (.bin false .shl (.c (.int .i64 1)) (.t 10))⟩, ⟨(some 12), (some (7, true)), (.bin false .sub (.t 11) (.c (.int .i64 1)))⟩, ⟨(some 13), (some (7, true)), (.call 24 [(.t 8), (.c (.int .i64 0)), (.t 12)])⟩, ⟨(some 14), none, (.pick (.t 7) (.t 13) (.c (.bool false)))⟩, ⟨(some 4), none, (.mov (.t 14))⟩]) .ret))
theorem code_s_IsSet : fnCode Tryd.prog [] 22 = some (15, sc_s_IsSet, [(4, none)]) := by kernel_rfl
def F_s_IsSet : List V → Option V := F2 dI dI fun n s => some (.bool (isSet n s))
theorem fn_s_IsSet : FnOk Tryd.prog 22 F_s_IsSet := by
  have env := (envNil_ok (P := Tryd.prog)).add fn_s_l1In
  refine fn_ok code_s_IsSet mixed env ?_
  intro args r h hb
  obtain ⟨_, _, n, s, rfl, h1, h2, h4⟩ := F2_inv h
  cases dI_inv h1
  cases dI_inv h2
  cases h4
  refine ⟨by simp, fun w0 U0 L0 N0 => ?_⟩
  simp -implicitDefEqProofs [sc_s_IsSet, F_s_l1In, isSet]
  refine ⟨fun h1 h2 => ?_, by omega⟩
  have : n = 0 ∨ n = 1 ∨ n = 2 ∨ n = 3 ∨ n = 4 ∨ n = 5 ∨ n = 6 := by omega
  rcases this with rfl | rfl | rfl | rfl | rfl | rfl | rfl <;> simp [IntKind.wrap, IntKind.bits, IntKind.signed] <;> rw [Bool.eq_iff_iff] <;> simp <;> omega
def sc_i_IsSet : SC := (.seq (.reg [⟨(some 4), none, (.mov (.c (.bool false)))⟩]) (.seq (.reg [⟨(some 5), none, (.mov (.t 0))⟩, ⟨(some 6), none, (.bin false .geq (.t 5) (.c (.int .i64 0)))⟩, ⟨(some 7), none, (.mov (.t 6))⟩, ⟨(some 8), (some (7, true)), (.mov (.t 0))⟩, ⟨(some 9), (some (7, true)), (.bin false .leq (.t 8) (.c (.int .i64 6)))⟩, ⟨(some 10), none, (.pick (.t 7) (.t 9) (.c (.bool false)))⟩, ⟨(some 11), none, (.mov (.t 10))⟩, ⟨(some 12), (some (11, true)), (.mov (.t 1))⟩, ⟨(some 13), (some (11, true)), (.bin false .geq (.t 12) (.c (.int .i64 0)))⟩, ⟨(some 14), none, (.pick (.t 11) (.t 13) (.c (.bool false)))⟩, ⟨(some 15), none, (.mov (.t 14))⟩, ⟨(some 16), (some (15, true)), (.mov (.t 1))⟩, ⟨(some 17), (some (15, true)), (.mov (.t 0))⟩, ⟨(some 18), (some (15, true)), (.conv .u64 (.t 17))⟩, ⟨(some 19), (some (15, true)), (.bin false .shl (.c (.int .i64 1)) (.t 18))⟩, ⟨(some 20), (some (15, true)), (.bin false .lss (.t 16) (.t 19))⟩, ⟨(some 21), none, (.pick (.t 15) (.t 20) (.c (.bool false)))⟩, ⟨(some 4), none, (.mov (.t 21))⟩]) .ret))
theorem code_i_IsSet : fnCode Tryd.prog [] 44 = some (22, sc_i_IsSet, [(4, none)]) := by kernel_rfl
def F_i_IsSet : List V → Option V := F2 dI dI fun n s => some (.bool (isSet n s))
theorem fn_i_IsSet : FnOk Tryd.prog 44 F_i_IsSet := by
  refine fn_ok code_i_IsSet mixed envNil_ok ?_
  intro args r h hb
  obtain ⟨_, _, n, s, rfl, h1, h2, h4⟩ := F2_inv h
  cases dI_inv h1
  cases dI_inv h2
  cases h4
  refine ⟨by simp, fun w0 U0 L0 N0 => ?_⟩
  generalize hw : (IntKind.u64.wrap n) = w
  generalize hv : isSet n s = v
  simp -implicitDefEqProofs [sc_i_IsSet, hw]
  have key : 0 ≤ n → n ≤ 6 → 0 ≤ w ∧ IntKind.i64.wrap (2 ^ min w.toNat IntKind.i64.bits) = 2 ^ n.toNat := by
    intro h1 h2
    have : n = 0 ∨ n = 1 ∨ n = 2 ∨ n = 3 ∨ n = 4 ∨ n = 5 ∨ n = 6 := by omega
    rcases this with rfl | rfl | rfl | rfl | rfl | rfl | rfl <;> (subst hw; decide)
  subst hv
  by_cases h1 : 0 ≤ n ∧ n ≤ 6
  · obtain ⟨k1, k2⟩ := key h1.1 h1.2
    rw [k2]
    simp [isSet, h1.1, h1.2, k1]
    omega
  · have e : isSet n s = false := by simp [isSet]; omega
    simp [e]
    omega
def sc_s_l2Size_L0 : SC := (.seq (.seq (.reg [⟨(some 4), none, (.mov (.t 0))⟩, ⟨(some 5), none, (.bin false .gtr (.t 4) (.c (.int .i64 0)))⟩]) (.cond (.t 5) .skip (.exit 0))) (.block 1 (.seq (.reg [⟨(some 6), none, (.mov (.t 3))⟩, ⟨(some 7), none, (.mov (.t 0))⟩, ⟨(some 8), none, (.bin false .and (.t 7) (.c (.int .i64 1)))⟩, ⟨(some 9), none, (.bin false .add (.t 6) (.t 8))⟩, ⟨(some 3), none, (.mov (.t 9))⟩]) (.reg [⟨(some 10), none, (.mov (.t 0))⟩, ⟨(some 11), none, (.bin false .shr (.t 10) (.c (.int .u64 1)))⟩, ⟨(some 0), none, (.mov (.t 11))⟩]))))
def sc_s_l2Size : SC := (.seq (.reg [⟨(some 2), none, (.mov (.c (.int .i64 0)))⟩]) (.seq (.reg [⟨(some 3), none, (.mov (.c (.int .i64 0)))⟩]) (.seq (.block 0 (.loop sc_s_l2Size_L0)) (.seq (.reg [⟨(some 12), none, (.mov (.t 3))⟩, ⟨(some 2), none, (.mov (.t 12))⟩]) .ret))))
theorem code_s_l2Size : fnCode Tryd.prog [] 38 = some (13, sc_s_l2Size, [(2, none)]) := by kernel_rfl
/-- The instance is by choice: a checker must not begin to count. -/
noncomputable def F_s_l2Size : List V → Option V := F1 dI fun s => @ite _ (s < 9223372036854775808) (Classical.propDecidable _) (some (.int .i64 (sz s))) none
theorem fn_s_l2Size : FnOk Tryd.prog 38 F_s_l2Size := by
  refine fn_ok code_s_l2Size mixed envNil_ok ?_
  intro args r h hb
  obtain ⟨_, s, rfl, h1, h4⟩ := F1_inv h
  cases dI_inv h1
  simp only [Option.ite_none_right_eq_some, Option.some.injEq] at h4
  obtain ⟨hs, rfl⟩ := h4
  refine ⟨by simp, fun w0 U0 L0 N0 => ?_⟩
  simp -implicitDefEqProofs [sc_s_l2Size]
  by_cases h0 : 0 < s
  · obtain ⟨m, rfl⟩ : ∃ m : Nat, s = m := ⟨s.toNat, by omega⟩
    refine loopI envNil_ok mixed (fun x : Nat × Nat × Nat => [(0, .int .i64 (x.2.1 : Int)), (3, .int .i64 (x.2.2 : Int))]) (fun _ => ([], 0)) (fun x => x.2.1 < 9223372036854775808 ∧ x.2.2 + pcF x.1 x.2.1 = pc m ∧ x.2.1 < 2 ^ x.1) (fun x => x.1) (64, m, 0)
      (by simp [pc]; omega) (SubI.slots rfl (by simp)) ?_
    rintro ⟨f, k, n⟩ ⟨hk, hp, hf⟩
    simp -implicitDefEqProofs [sc_s_l2Size_L0]
    refine ⟨fun h => ?_, fun h => ?_⟩
    · have hl := pc_le m
      cases f with
      | zero => simp at hf; omega
      | succ f =>
        have e1 : bitop .and .i64 (k : Int) 1 = ((k % 2 : Nat) : Int) := by
          rw [show (1 : Int) = ((1 : Nat) : Int) from rfl, bits_and k 1 hk (by omega), Nat.and_one_is_mod]
        have e2 : (k : Int).fdiv 2 = ((k / 2 : Nat) : Int) := by rw [Int.fdiv_eq_ediv_of_nonneg _ (by omega)]; rfl
        simp only [pcF] at hp
        simp only at hp hf hk
        refine Again.of (f, k / 2, n + k % 2) ⟨by simp only; omega, by simp only; omega, by simp only; rw [Nat.pow_succ] at hf; omega⟩ (by simp) (SubI.slots rfl ?_)
        simp [e1]
        simp (disch := omega) [IntKind.bits, e2, wrapI]
    · have : k = 0 := by omega
      subst this
      simp only [pcF_zero] at hp
      simp [sz]
      omega
  · refine loopI envNil_ok mixed (fun _ : Unit => [(0, .int .i64 s), (3, .int .i64 0)]) (fun _ => ([], 0)) (fun _ => True) (fun _ => 0) () trivial (SubI.slots rfl (by simp)) ?_
    rintro ⟨⟩ _
    have e : s.toNat = 0 := by omega
    simp -implicitDefEqProofs [sc_s_l2Size_L0, h0, sz, e, pc, pcF_zero]
def sc_s_l2Before : SC := (.seq (.reg [⟨(some 4), none, (.mov (.c (.bool false)))⟩]) (.seq (.reg [⟨(some 7), none, (.mov (.t 0))⟩, ⟨(some 8), none, (.call 38 [(.t 7)])⟩, ⟨(some 5), none, (.mov (.t 8))⟩]) (.seq (.reg [⟨(some 9), none, (.mov (.t 1))⟩, ⟨(some 10), none, (.call 38 [(.t 9)])⟩, ⟨(some 6), none, (.mov (.t 10))⟩]) (.seq (.reg [⟨(some 11), none, (.mov (.t 5))⟩, ⟨(some 12), none, (.mov (.t 6))⟩, ⟨(some 13), none, (.bin false .lss (.t 11) (.t 12))⟩, ⟨(some 14), none, (.mov (.t 13))⟩, ⟨(some 15), (some (14, false)), (.mov (.t 5))⟩, ⟨(some 16), (some (14, false)), (.mov (.t 6))⟩, ⟨(some 17), (some (14, false)), (.bin false .eql (.t 15) (.t 16))⟩, ⟨(some 18), (some (14, false)), (.mov (.t 17))⟩, ⟨(some 19), (some (18, true)), (.mov (.t 0))⟩, ⟨(some 20), (some (18, true)), (.mov (.t 1))⟩, ⟨(some 21), (some (18, true)), (.bin false .lss (.t 19) (.t 20))⟩, ⟨(some 22), (some (14, false)), (.pick (.t 18) (.t 21) (.c (.bool false)))⟩, ⟨(some 23), none, (.pick (.t 14) (.c (.bool true)) (.t 22))⟩, ⟨(some 4), none, (.mov (.t 23))⟩]) .ret))))
theorem code_s_l2Before : fnCode Tryd.prog [] 23 = some (24, sc_s_l2Before, [(4, none)]) := by kernel_rfl
noncomputable def F_s_l2Before : List V → Option V := F2 dI dI fun a b => @ite _ (a < 9223372036854775808 ∧ b < 9223372036854775808) (Classical.propDecidable _) (some (.bool (before a b))) none
theorem fn_s_l2Before : FnOk Tryd.prog 23 F_s_l2Before := by
  have env := (envNil_ok (P := Tryd.prog)).add fn_s_l2Size
  refine fn_ok code_s_l2Before mixed env ?_
  intro args r h hb
  obtain ⟨_, _, a, b, rfl, h1, h2, h4⟩ := F2_inv h
  cases dI_inv h1
  cases dI_inv h2
  simp only [Option.ite_none_right_eq_some, Option.some.injEq] at h4
  obtain ⟨⟨ha, hb⟩, rfl⟩ := h4
  refine ⟨by simp, fun w0 U0 L0 N0 => ?_⟩
  simp -implicitDefEqProofs [sc_s_l2Before, F_s_l2Size, before, ha, hb]
  refine ⟨fun h => ⟨fun h2 => ?_, fun h2 => ⟨h, fun h3 => absurd h3 h2⟩⟩, fun h => Or.inl h⟩
  simp [h2]
end Go.Proofs.YtkoljbncokmeaaaDoor
namespace Go.Proofs.YtkoljbncokmeaaaDoor
open Go Go.RowKit
set_option maxRecDepth 1000000
set_option linter.unusedSimpArgs false
set_option linter.unusedVariables false
set_option maxHeartbeats 1000000
def sc_s_IsComplex_L2 : SC := (.seq (.seq (.reg [⟨(some 40), none, (.mov (.t 4))⟩, ⟨(some 41), none, (.mov (.t 3))⟩, ⟨(some 42), none, (.bin false .lss (.t 40) (.t 41))⟩]) (.cond (.t 42) .skip (.exit 2))) (.seq (.block 3 (.seq (.dreg [⟨⟨(some 45), none, (.fad 1 (.t 1))⟩, false, false⟩, ⟨⟨(some 46), none, (.ld none .nil (.t 45))⟩, false, false⟩, ⟨⟨(some 47), none, (.mov (.t 4))⟩, false, false⟩, ⟨⟨(some 48), none, (.idx 1 (.t 46) (.t 47))⟩, false, false⟩, ⟨⟨(some 49), none, (.ld none (.int .i64 0) (.t 48))⟩, false, false⟩, ⟨⟨(some 50), none, (.fad 1 (.t 1))⟩, false, false⟩, ⟨⟨(some 51), none, (.ld none .nil (.t 50))⟩, false, false⟩, ⟨⟨(some 52), none, (.mov (.t 3))⟩, false, false⟩, ⟨⟨(some 53), none, (.idx 1 (.t 51) (.t 52))⟩, false, false⟩, ⟨⟨(some 54), none, (.ld none (.int .i64 0) (.t 53))⟩, false, false⟩, ⟨⟨(some 55), none, (.bin false .and (.t 49) (.t 54))⟩, false, false⟩, ⟨⟨(some 56), none, (.fad 1 (.t 1))⟩, false, false⟩, ⟨⟨(some 57), none, (.ld none .nil (.t 56))⟩, false, false⟩, ⟨⟨(some 58), none, (.mov (.t 4))⟩, false, false⟩, ⟨⟨(some 59), none, (.idx 1 (.t 57) (.t 58))⟩, false, false⟩, ⟨⟨(some 60), none, (.ld none (.int .i64 0) (.t 59))⟩, false, false⟩, ⟨⟨(some 61), none, (.bin false .eql (.t 55) (.t 60))⟩, false, false⟩]) (.cond (.t 61) (.seq (.reg [⟨(some 2), none, (.mov (.c (.bool false)))⟩]) .ret) .skip))) (.reg [⟨(some 43), none, (.mov (.t 4))⟩, ⟨(some 44), none, (.bin false .add (.t 43) (.c (.int .i64 1)))⟩, ⟨(some 4), none, (.mov (.t 44))⟩])))
def sc_s_IsComplex_L0 : SC := (.seq (.seq (.reg [⟨(some 5), none, (.mov (.t 3))⟩, ⟨(some 6), none, (.fad 1 (.t 1))⟩, ⟨(some 7), none, (.ld none .nil (.t 6))⟩, ⟨(some 8), none, (.len (.t 7))⟩, ⟨(some 9), none, (.bin false .lss (.t 5) (.t 8))⟩]) (.cond (.t 9) .skip (.exit 0))) (.seq (.block 1 (.seq (.seq (.dreg [⟨⟨(some 12), none, (.fad 0 (.t 1))⟩, false, false⟩, ⟨⟨(some 13), none, (.ld none (.int .i64 0) (.t 12))⟩, false, false⟩, ⟨⟨(some 14), none, (.fad 1 (.t 1))⟩, false, false⟩, ⟨⟨(some 15), none, (.ld none .nil (.t 14))⟩, false, false⟩, ⟨⟨(some 16), none, (.mov (.t 3))⟩, false, false⟩, ⟨⟨(some 17), none, (.idx 1 (.t 15) (.t 16))⟩, false, false⟩, ⟨⟨(some 18), none, (.ld none (.int .i64 0) (.t 17))⟩, false, false⟩, ⟨⟨(some 19), none, (.call 22 [(.t 13), (.t 18)])⟩, false, false⟩, ⟨⟨(some 20), none, (.un .not (.t 19))⟩, false, false⟩, ⟨⟨(some 21), none, (.mov (.t 20))⟩, false, false⟩, ⟨⟨(some 22), (some (21, false)), (.mov (.t 3))⟩, false, false⟩, ⟨⟨(some 23), (some (21, false)), (.bin false .gtr (.t 22) (.c (.int .i64 0)))⟩, false, false⟩, ⟨⟨(some 24), (some (21, false)), (.mov (.t 23))⟩, false, false⟩, ⟨⟨(some 25), (some (24, true)), (.fad 1 (.t 1))⟩, false, false⟩, ⟨⟨(some 26), (some (24, true)), (.ld none .nil (.t 25))⟩, false, false⟩, ⟨⟨(some 27), (some (24, true)), (.mov (.t 3))⟩, false, false⟩, ⟨⟨(some 28), (some (24, true)), (.bin false .sub (.t 27) (.c (.int .i64 1)))⟩, false, false⟩, ⟨⟨(some 29), (some (24, true)), (.idx 1 (.t 26) (.t 28))⟩, false, false⟩, ⟨⟨(some 30), (some (24, true)), (.ld none (.int .i64 0) (.t 29))⟩, false, false⟩, ⟨⟨(some 31), (some (24, true)), (.fad 1 (.t 1))⟩, false, false⟩, ⟨⟨(some 32), (some (24, true)), (.ld none .nil (.t 31))⟩, false, false⟩, ⟨⟨(some 33), (some (24, true)), (.mov (.t 3))⟩, false, false⟩, ⟨⟨(some 34), (some (24, true)), (.idx 1 (.t 32) (.t 33))⟩, false, false⟩, ⟨⟨(some 35), (some (24, true)), (.ld none (.int .i64 0) (.t 34))⟩, false, false⟩, ⟨⟨(some 36), (some (24, true)), (.call 23 [(.t 30), (.t 35)])⟩, false, false⟩, ⟨⟨(some 37), (some (24, true)), (.un .not (.t 36))⟩, false, false⟩, ⟨⟨(some 38), (some (21, false)), (.pick (.t 24) (.t 37) (.c (.bool false)))⟩, false, false⟩, ⟨⟨(some 39), none, (.pick (.t 21) (.c (.bool true)) (.t 38))⟩, false, false⟩]) (.cond (.t 39) (.seq (.reg [⟨(some 2), none, (.mov (.c (.bool false)))⟩]) .ret) .skip)) (.seq (.reg [⟨(some 4), none, (.mov (.c (.int .i64 0)))⟩]) (.block 2 (.loop sc_s_IsComplex_L2))))) (.reg [⟨(some 10), none, (.mov (.t 3))⟩, ⟨(some 11), none, (.bin false .add (.t 10) (.c (.int .i64 1)))⟩, ⟨(some 3), none, (.mov (.t 11))⟩])))
def sc_s_IsComplex : SC := (.seq (.reg [⟨(some 1), none, (.box (.t 0))⟩, ⟨(some 2), none, (.mov (.c (.bool false)))⟩]) (.seq (.seq (.reg [⟨(some 3), none, (.mov (.c (.int .i64 0)))⟩]) (.block 0 (.loop sc_s_IsComplex_L0))) (.seq (.reg [⟨(some 62), none, (.fad 0 (.t 1))⟩, ⟨(some 63), none, (.ld none (.int .i64 0) (.t 62))⟩, ⟨(some 64), none, (.call 24 [(.t 63), (.c (.int .i64 1)), (.c (.int .i64 6))])⟩, ⟨(some 2), none, (.mov (.t 64))⟩]) .ret)))
theorem code_s_IsComplex : fnCode Tryd.prog [] 10 = some (65, sc_s_IsComplex, [(2, none)]) := by kernel_rfl
/-- What is asked of the facet at place k. -/
def facetOk (n : Int) (l : List Int) (k : Nat) : Prop :=
  isSet n (at0 l k) = true ∧ (0 < k → before (at0 l (k - 1)) (at0 l k) = true) ∧ ∀ i, i < k → bitop .and .i64 (at0 l i) (at0 l k) ≠ at0 l i
def cplx (n : Int) (l : List Int) : Prop := 1 ≤ n ∧ n ≤ 6 ∧ ∀ k, k < l.length → facetOk n l k
open Classical in
noncomputable def cplxB (n : Int) (l : List Int) : Bool := decide (cplx n l)
theorem cplxB_iff {n : Int} {l : List Int} : cplxB n l = true ↔ cplx n l := by simp [cplxB]
theorem cplxB_not {n : Int} {l : List Int} {k : Nat} (hk : k < l.length) (h : ¬ facetOk n l k) : cplxB n l = false := by
  simp only [cplxB, decide_eq_false_iff_not]
  exact fun hc => h (hc.2.2 k hk)
noncomputable def F_s_IsComplex : List V → Option V := F1 dC fun c => some (.bool (cplxB c.1 c.2))
theorem fn_s_IsComplex : FnOk Tryd.prog 10 F_s_IsComplex := by
  have env := (((envNil_ok (P := Tryd.prog)).add fn_s_l1In).add fn_s_l2Before).add fn_s_IsSet
  refine fn_ok code_s_IsComplex mixed env ?_
  intro args r h hb
  obtain ⟨_, ⟨n, l⟩, rfl, h1, h4⟩ := F1_inv h
  cases dC_inv h1
  cases h4
  have hl := bnd_eC (hb _ (List.mem_cons_self ..))
  simp only at hl
  generalize hv : cplxB n l = v
  refine ⟨by simp, fun w0 U0 L0 N0 => ?_⟩
  have inner : ∀ (k : Nat) (Q : Post), k < l.length →
      ((∀ i, i < k → bitop .and .i64 (at0 l i) (at0 l k) ≠ at0 l i) → Q (.exit 2) [(1, .pt 0 0), (3, .int .i64 (k : Int))] ([(0, [.int .i64 n, .list 1 (ints l)])], 1)) →
      ((¬ ∀ i, i < k → bitop .and .i64 (at0 l i) (at0 l k) ≠ at0 l i) → Q .ret [(2, .bool false)] ([(0, [.int .i64 n, .list 1 (ints l)])], 1)) →
      LoopI ⟨Tryd.prog, w0, U0, L0, N0, 0, 65⟩ [] sc_s_IsComplex_L2 Q [(4, .int .i64 0), (1, .pt 0 0), (3, .int .i64 (k : Int))] ([(0, [.int .i64 n, .list 1 (ints l)])], 1) := by
    intro k Q hk q1 q2
    refine loopQ env mixed (fun i : Nat => [(4, .int .i64 (i : Int)), (1, .pt 0 0), (3, .int .i64 (k : Int))]) (fun _ => ([(0, [.int .i64 n, .list 1 (ints l)])], 1)) (fun i => i ≤ k ∧ ∀ j, j < i → bitop .and .i64 (at0 l j) (at0 l k) ≠ at0 l j) (fun i => k - i) 0 (by simp) (SubI.slots rfl (by simp)) ?_
    rintro i ⟨hi, hn⟩
    simp -implicitDefEqProofs [sc_s_IsComplex_L2]
    have hsub : ∀ (L : Tm) (h : Nat), i < k → bitop .and .i64 (at0 l i) (at0 l k) = at0 l i → subE L [(2, .bool false)] → SubQ 0 Q .ret L ([(0, [.int .i64 n, .list 1 (ints l)])], 1) := 
      fun L _ h e hs => SubQ.of (SubI.slots rfl hs) (q2 fun hf => hf i h e)
    repeat' (first | omega | apply And.intro | intro _)
    · exact hsub _ 0 ‹_› ‹_› (by simp)
    · refine Again.of (i + 1) ⟨by omega, fun j hj => ?_⟩ (by omega) (SubI.slots rfl (by simp (disch := omega) [wrapI]))
      rcases Nat.lt_succ_iff_lt_or_eq.1 hj with h1 | rfl
      · exact hn j h1
      · assumption
    · have : i = k := by omega
      subst this
      exact SubQ.of (SubI.slots rfl (by simp)) (q1 hn)
  simp -implicitDefEqProofs [sc_s_IsComplex]
  refine loopI env mixed (fun k : Nat => [(1, .pt 0 0), (3, .int .i64 (k : Int))]) (fun _ => ([(0, [.int .i64 n, .list 1 (ints l)])], 1)) (fun k => k ≤ l.length ∧ ∀ j, j < k → facetOk n l j) (fun k => l.length - k) 0 (by simp) (SubI.slots rfl (by simp)) ?_
  rintro k ⟨hk, hn⟩
  have step : ∀ (Q : Post) (L : Tm), k < l.length → isSet n (at0 l k) = true → (0 < k → before (at0 l (k - 1)) (at0 l k) = true) → subE L [(4, .int .i64 0), (1, .pt 0 0), (3, .int .i64 (k : Int))] →
      (facetOk n l k → Q (.exit 2) [(1, .pt 0 0), (3, .int .i64 (k : Int))] ([(0, [.int .i64 n, .list 1 (ints l)])], 1)) → (v = false → Q .ret [(2, .bool false)] ([(0, [.int .i64 n, .list 1 (ints l)])], 1)) →
      LoopI ⟨Tryd.prog, w0, U0, L0, N0, 0, 65⟩ [] sc_s_IsComplex_L2 Q L ([(0, [.int .i64 n, .list 1 (ints l)])], 1) :=
    fun Q L h1 h2 h3 hs q1 q2 => (inner k Q h1 (fun h => q1 ⟨h2, h3, h⟩) (fun h => q2 (hv ▸ cplxB_not h1 fun hf => h hf.2.2))).sub (SubI.slots rfl hs)
  have again : facetOk n l k → k < l.length → ((k + 1 : Nat) ≤ l.length ∧ ∀ (j : Nat), j < k + 1 → facetOk n l j) := by
    intro hf h
    refine ⟨by omega, fun j hj => ?_⟩
    rcases Nat.lt_succ_iff_lt_or_eq.1 hj with h1 | rfl
    · exact hn j h1
    · exact hf
  by_cases hs : k < l.length ∧ isSet n (at0 l k) = true
  · obtain ⟨hs1, hs2⟩ := hs
    have r1 : at0 l k < 9223372036854775808 := by have := isSet_pos hs2; omega
    have r2 : at0 l (IntKind.i64.wrap ((k : Int) - 1)).toNat < 9223372036854775808 := by
      rw [wrapI _ (by omega) (by omega)]
      rcases Nat.eq_zero_or_pos k with rfl | h0
      · exact r1
      · rw [show ((k : Int) - 1).toNat = k - 1 by omega]
        have := isSet_pos (hn (k - 1) (by omega)).1
        omega
    simp -implicitDefEqProofs [sc_s_IsComplex_L0, F_s_IsSet, F_s_l2Before, F_s_l1In, r1, r2, hs1, hs2]
    by_cases h0 : 0 < k
    · rw [wrapI _ (by omega) (by omega), show ((k : Int) - 1).toNat = k - 1 by omega]
      repeat' (first | omega | apply And.intro | intro _)
      · exact hv ▸ cplxB_not hs1 fun hf => by simp_all [hf.2.1 h0]
      · refine step _ _ hs1 hs2 (fun _ => by assumption) (by simp) (fun hf => ?_) (fun e => ?_)
        · simp -implicitDefEqProofs
          exact Again.of (k + 1) (again hf hs1) (by omega) (SubI.slots rfl (by simp (disch := omega) [wrapI]))
        · simp [e]
    · repeat' (first | omega | apply And.intro | intro _)
      refine step _ _ hs1 hs2 (fun h => absurd h h0) (by simp) (fun hf => ?_) (fun e => ?_)
      · simp -implicitDefEqProofs
        exact Again.of (k + 1) (again hf hs1) (by omega) (SubI.slots rfl (by simp (disch := omega) [wrapI]))
      · simp [e]
  · by_cases hs1 : k < l.length
    · have hs2 : isSet n (at0 l k) = false := by
        rw [← Bool.not_eq_true]
        exact fun h => hs ⟨hs1, h⟩
      simp -implicitDefEqProofs [sc_s_IsComplex_L0, F_s_IsSet, F_s_l2Before, F_s_l1In, hs1, hs2]
      refine ⟨by omega, ?_⟩
      exact hv ▸ cplxB_not hs1 fun hf => by simp_all [hf.1]
    · simp -implicitDefEqProofs [sc_s_IsComplex_L0, F_s_IsSet, F_s_l2Before, F_s_l1In, hs1]
      have : k = l.length := by omega
      subst this
      rw [← hv, Bool.eq_iff_iff, cplxB_iff]
      constructor
      · intro h
        simp only [Bool.and_eq_true, decide_eq_true_eq] at h
        exact ⟨h.1, h.2, hn⟩
      · intro h
        simp [h.1, h.2.1]
def sc_math_bits_OnesCount64 : SC := (.seq (.reg [⟨(some 2), none, (.mov (.c (.int .i64 0)))⟩]) (.seq (.reg [⟨(some 3), none, (.mov (.t 0))⟩, ⟨(some 4), none, (.bin false .shr (.t 3) (.c (.int .u64 1)))⟩, ⟨(some 5), none, (.bin false .and (.t 4) (.c (.int .u64 6148914691236517205)))⟩, ⟨(some 6), none, (.mov (.t 0))⟩, ⟨(some 7), none, (.bin false .and (.t 6) (.c (.int .u64 6148914691236517205)))⟩, ⟨(some 8), none, (.bin false .add (.t 5) (.t 7))⟩, ⟨(some 0), none, (.mov (.t 8))⟩]) (.seq (.reg [⟨(some 9), none, (.mov (.t 0))⟩, ⟨(some 10), none, (.bin false .shr (.t 9) (.c (.int .u64 2)))⟩, ⟨(some 11), none, (.bin false .and (.t 10) (.c (.int .u64 3689348814741910323)))⟩, ⟨(some 12), none, (.mov (.t 0))⟩, ⟨(some 13), none, (.bin false .and (.t 12) (.c (.int .u64 3689348814741910323)))⟩, ⟨(some 14), none, (.bin false .add (.t 11) (.t 13))⟩, ⟨(some 0), none, (.mov (.t 14))⟩]) (.seq (.reg [⟨(some 15), none, (.mov (.t 0))⟩, ⟨(some 16), none, (.bin false .shr (.t 15) (.c (.int .u64 4)))⟩, ⟨(some 17), none, (.mov (.t 0))⟩, ⟨(some 18), none, (.bin false .add (.t 16) (.t 17))⟩, ⟨(some 19), none, (.bin false .and (.t 18) (.c (.int .u64 1085102592571150095)))⟩, ⟨(some 0), none, (.mov (.t 19))⟩]) (.seq (.reg [⟨(some 20), none, (.mov (.t 0))⟩, ⟨(some 21), none, (.mov (.t 0))⟩, ⟨(some 22), none, (.bin false .shr (.t 21) (.c (.int .u64 8)))⟩, ⟨(some 23), none, (.bin false .add (.t 20) (.t 22))⟩, ⟨(some 0), none, (.mov (.t 23))⟩]) (.seq (.reg [⟨(some 24), none, (.mov (.t 0))⟩, ⟨(some 25), none, (.mov (.t 0))⟩, ⟨(some 26), none, (.bin false .shr (.t 25) (.c (.int .u64 16)))⟩, ⟨(some 27), none, (.bin false .add (.t 24) (.t 26))⟩, ⟨(some 0), none, (.mov (.t 27))⟩]) (.seq (.reg [⟨(some 28), none, (.mov (.t 0))⟩, ⟨(some 29), none, (.mov (.t 0))⟩, ⟨(some 30), none, (.bin false .shr (.t 29) (.c (.int .u64 32)))⟩, ⟨(some 31), none, (.bin false .add (.t 28) (.t 30))⟩, ⟨(some 0), none, (.mov (.t 31))⟩]) (.seq (.reg [⟨(some 32), none, (.mov (.t 0))⟩, ⟨(some 33), none, (.conv .i64 (.t 32))⟩, ⟨(some 34), none, (.bin false .and (.t 33) (.c (.int .i64 127)))⟩, ⟨(some 2), none, (.mov (.t 34))⟩]) .ret))))))))
theorem code_math_bits_OnesCount64 : fnCode Tryd.prog [] 78 = some (35, sc_math_bits_OnesCount64, [(2, none)]) := by kernel_rfl
def F_OnesCount64 : List V → Option V
  | [.int .u64 n] => if 0 ≤ n ∧ n < 64 then some (.int .i64 (sz n)) else none
  | _ => none
theorem fn_OnesCount64 : FnOk Tryd.prog 78 F_OnesCount64 := by
  refine fn_ok code_math_bits_OnesCount64 mixed envNil_ok ?_
  intro args r h hb
  unfold F_OnesCount64 at h
  split at h
  · rename_i n
    simp only [Option.ite_none_right_eq_some, Option.some.injEq] at h
    obtain ⟨⟨h1, h2⟩, rfl⟩ := h
    refine ⟨by simp, fun w0 U0 L0 N0 => ?_⟩
    simp -implicitDefEqProofs [sc_math_bits_OnesCount64]
    clear hb
    obtain ⟨m, rfl⟩ : ∃ m : Nat, n = m := ⟨n.toNat, by omega⟩
    have hm : m < 64 := by omega
    clear h1 h2
    revert m
    decide +kernel
  · simp at h
def sc_math_bits_OnesCount : SC := (.seq (.reg [⟨(some 2), none, (.mov (.c (.int .i64 0)))⟩]) (.seq (.cond (.c (.bool false)) (.seq (.reg [⟨(some 3), none, (.mov (.t 0))⟩, ⟨(some 4), none, (.conv .u32 (.t 3))⟩, ⟨(some 5), none, (.call 77 [(.t 4)])⟩, ⟨(some 2), none, (.mov (.t 5))⟩]) .ret) .skip) (.seq (.reg [⟨(some 6), none, (.mov (.t 0))⟩, ⟨(some 7), none, (.call 78 [(.t 6)])⟩, ⟨(some 2), none, (.mov (.t 7))⟩]) .ret)))
theorem code_math_bits_OnesCount : fnCode Tryd.prog [] 65 = some (8, sc_math_bits_OnesCount, [(2, none)]) := by kernel_rfl
theorem fn_OnesCount : FnOk Tryd.prog 65 F_OnesCount64 := by
  have env := (envNil_ok (P := Tryd.prog)).add fn_OnesCount64
  refine fn_ok code_math_bits_OnesCount mixed env ?_
  intro args r h hb
  unfold F_OnesCount64 at h
  split at h
  · rename_i n
    simp only [Option.ite_none_right_eq_some, Option.some.injEq] at h
    obtain ⟨⟨h1, h2⟩, rfl⟩ := h
    refine ⟨by simp, fun w0 U0 L0 N0 => ?_⟩
    simp -implicitDefEqProofs [sc_math_bits_OnesCount, F_OnesCount64, h1, h2]
  · simp at h
def sc_i_SizeOf : SC := (.seq (.reg [⟨(some 2), none, (.mov (.c (.int .i64 0)))⟩]) (.seq (.seq (.reg [⟨(some 3), none, (.mov (.t 0))⟩, ⟨(some 4), none, (.call 44 [(.c (.int .i64 6)), (.t 3)])⟩, ⟨(some 5), none, (.un .not (.t 4))⟩]) (.cond (.t 5) (.seq (.reg [⟨(some 2), none, (.mov (.c (.int .i64 (-1))))⟩]) .ret) .skip)) (.seq (.reg [⟨(some 6), none, (.mov (.t 0))⟩, ⟨(some 7), none, (.conv .u64 (.t 6))⟩, ⟨(some 8), none, (.call 65 [(.t 7)])⟩, ⟨(some 2), none, (.mov (.t 8))⟩]) .ret)))
theorem code_i_SizeOf : fnCode Tryd.prog [] 48 = some (9, sc_i_SizeOf, [(2, none)]) := by kernel_rfl
def sizeOf1 (s : Int) : Int := if 0 ≤ s ∧ s < 64 then sz s else -1
theorem sizeOf1_set {s : Int} (h1 : 0 ≤ s) (h2 : s < 64) : sizeOf1 s = sz s := by simp [sizeOf1, h1, h2]
def F_i_SizeOf : List V → Option V := F1 dI fun s => some (.int .i64 (sizeOf1 s))
theorem fn_i_SizeOf : FnOk Tryd.prog 48 F_i_SizeOf := by
  have env := ((envNil_ok (P := Tryd.prog)).add fn_OnesCount).add fn_i_IsSet
  refine fn_ok code_i_SizeOf mixed env ?_
  intro args r h hb
  obtain ⟨_, s, rfl, h1, h4⟩ := F1_inv h
  cases dI_inv h1
  cases h4
  refine ⟨by simp, fun w0 U0 L0 N0 => ?_⟩
  by_cases hs : 0 ≤ s ∧ s < 64
  · have e : isSet 6 s = true := by simp [isSet, hs.1, hs.2]
    have e2 : IntKind.u64.wrap s = s := wrapU s hs.1 (by omega)
    simp -implicitDefEqProofs [sc_i_SizeOf, F_i_IsSet, F_OnesCount64, e, e2, hs.1, hs.2, sizeOf1]
  · have e : isSet 6 s = false := by
      rw [← Bool.not_eq_true]
      exact fun h => hs (isSet_pos h)
    simp -implicitDefEqProofs [sc_i_SizeOf, F_i_IsSet, F_OnesCount64, e, sizeOf1, hs]
def sc_i_BeforeSet : SC := (.seq (.reg [⟨(some 4), none, (.mov (.c (.bool false)))⟩]) (.seq (.seq (.reg [⟨(some 5), none, (.mov (.t 0))⟩, ⟨(some 6), none, (.call 44 [(.c (.int .i64 6)), (.t 5)])⟩, ⟨(some 7), none, (.un .not (.t 6))⟩, ⟨(some 8), none, (.mov (.t 7))⟩, ⟨(some 9), (some (8, false)), (.mov (.t 1))⟩, ⟨(some 10), (some (8, false)), (.call 44 [(.c (.int .i64 6)), (.t 9)])⟩, ⟨(some 11), (some (8, false)), (.un .not (.t 10))⟩, ⟨(some 12), none, (.pick (.t 8) (.c (.bool true)) (.t 11))⟩]) (.cond (.t 12) (.seq (.reg [⟨(some 4), none, (.mov (.c (.bool false)))⟩]) .ret) .skip)) (.seq (.seq (.reg [⟨(some 13), none, (.mov (.t 0))⟩, ⟨(some 14), none, (.call 48 [(.t 13)])⟩, ⟨(some 15), none, (.mov (.t 1))⟩, ⟨(some 16), none, (.call 48 [(.t 15)])⟩, ⟨(some 17), none, (.bin false .neq (.t 14) (.t 16))⟩]) (.cond (.t 17) (.seq (.reg [⟨(some 18), none, (.mov (.t 0))⟩, ⟨(some 19), none, (.call 48 [(.t 18)])⟩, ⟨(some 20), none, (.mov (.t 1))⟩, ⟨(some 21), none, (.call 48 [(.t 20)])⟩, ⟨(some 22), none, (.bin false .lss (.t 19) (.t 21))⟩, ⟨(some 4), none, (.mov (.t 22))⟩]) .ret) .skip)) (.seq (.reg [⟨(some 23), none, (.mov (.t 0))⟩, ⟨(some 24), none, (.mov (.t 1))⟩, ⟨(some 25), none, (.bin false .lss (.t 23) (.t 24))⟩, ⟨(some 4), none, (.mov (.t 25))⟩]) .ret))))
theorem code_i_BeforeSet : fnCode Tryd.prog [] 45 = some (26, sc_i_BeforeSet, [(4, none)]) := by kernel_rfl
def F_i_BeforeSet : List V → Option V := F2 dI dI fun a b => some (.bool (isSet 6 a && isSet 6 b && before a b))
theorem fn_i_BeforeSet : FnOk Tryd.prog 45 F_i_BeforeSet := by
  have env := ((envNil_ok (P := Tryd.prog)).add fn_i_SizeOf).add fn_i_IsSet
  refine fn_ok code_i_BeforeSet mixed env ?_
  intro args r h hb
  obtain ⟨_, _, a, b, rfl, h1, h2, h4⟩ := F2_inv h
  cases dI_inv h1
  cases dI_inv h2
  cases h4
  refine ⟨by simp, fun w0 U0 L0 N0 => ?_⟩
  by_cases ha : isSet 6 a = true
  · by_cases hc : isSet 6 b = true
    · have e1 := sizeOf1_set (isSet_pos ha).1 (isSet_pos ha).2
      have e2 := sizeOf1_set (isSet_pos hc).1 (isSet_pos hc).2
      simp -implicitDefEqProofs [sc_i_BeforeSet, F_i_IsSet, F_i_SizeOf, ha, hc, e1, e2, before]
      refine ⟨fun h => ?_, fun h => ?_⟩
      · simp [h]
      · simp [h]
    · simp only [Bool.not_eq_true] at hc
      simp -implicitDefEqProofs [sc_i_BeforeSet, F_i_IsSet, F_i_SizeOf, ha, hc]
  · simp only [Bool.not_eq_true] at ha
    simp -implicitDefEqProofs [sc_i_BeforeSet, F_i_IsSet, F_i_SizeOf, ha]
end Go.Proofs.YtkoljbncokmeaaaDoor
namespace Go.Proofs.YtkoljbncokmeaaaDoor
open Go Go.RowKit
set_option maxRecDepth 1000000
set_option linter.unusedSimpArgs false
set_option linter.unusedVariables false
set_option maxHeartbeats 1000000
def idxN : List Int → Int → Nat
  | [], _ => 0
  | a :: l, x => if a = x then 0 else idxN l x + 1
/-- The first place of a number, -1 if it is not there. -/
def idxOf (l : List Int) (x : Int) : Int := if x ∈ l then (idxN l x : Nat) else -1
end Go.Proofs.YtkoljbncokmeaaaDoor
namespace Go.Proofs.YtkoljbncokmeaaaDoor
open Go Go.RowKit
set_option maxRecDepth 1000000
set_option linter.unusedSimpArgs false
set_option linter.unusedVariables false
set_option maxHeartbeats 1000000
def sc_i_isAntichain_L4 : SC := (.seq (.reg [⟨(some 54), none, (.bin false .lss (.t 53) (.t 52))⟩]) (.seq (.cond (.t 54) .skip (.exit 4)) (.seq (.block 5 (.seq (.reg [⟨(some 55), none, (.idx 1 (.t 51) (.t 53))⟩, ⟨(some 56), none, (.ld none (.int .i64 0) (.t 55))⟩, ⟨(some 10), none, (.mov (.t 56))⟩]) (.seq (.reg [⟨(some 57), none, (.mov (.t 8))⟩, ⟨(some 58), none, (.mov (.t 10))⟩, ⟨(some 59), none, (.bin false .andNot (.t 57) (.t 58))⟩, ⟨(some 60), none, (.bin false .eql (.t 59) (.c (.int .i64 0)))⟩]) (.cond (.t 60) (.seq (.reg [⟨(some 4), none, (.mov (.c (.bool false)))⟩]) .ret) .skip)))) (.reg [⟨(some 61), none, (.bin false .add (.t 53) (.c (.int .i64 1)))⟩, ⟨(some 53), none, (.mov (.t 61))⟩]))))
def sc_i_isAntichain_L2 : SC := (.seq (.reg [⟨(some 44), none, (.bin false .lss (.t 43) (.t 42))⟩]) (.seq (.cond (.t 44) .skip (.exit 2)) (.seq (.block 3 (.seq (.reg [⟨(some 45), none, (.mov (.t 43))⟩, ⟨(some 46), none, (.idx 1 (.t 41) (.t 43))⟩, ⟨(some 47), none, (.ld none (.int .i64 0) (.t 46))⟩, ⟨(some 7), none, (.mov (.t 45))⟩, ⟨(some 8), none, (.mov (.t 47))⟩]) (.seq (.reg [⟨(some 48), none, (.mov (.t 1))⟩, ⟨(some 49), none, (.mov (.t 7))⟩, ⟨(some 50), none, (.bin false .add (.t 49) (.c (.int .i64 1)))⟩, ⟨(some 51), none, (.sli 1 (.t 48) (some (.t 50)) none none)⟩, ⟨(some 52), none, (.len (.t 51))⟩, ⟨(some 53), none, (.mov (.c (.int .i64 0)))⟩]) (.block 4 (.loop sc_i_isAntichain_L4))))) (.reg [⟨(some 62), none, (.bin false .add (.t 43) (.c (.int .i64 1)))⟩, ⟨(some 43), none, (.mov (.t 62))⟩]))))
def sc_i_isAntichain_L0 : SC := (.seq (.reg [⟨(some 20), none, (.bin false .lss (.t 19) (.t 18))⟩]) (.seq (.cond (.t 20) .skip (.exit 0)) (.seq (.block 1 (.seq (.reg [⟨(some 21), none, (.mov (.t 19))⟩, ⟨(some 22), none, (.idx 1 (.t 17) (.t 19))⟩, ⟨(some 23), none, (.ld none (.int .i64 0) (.t 22))⟩, ⟨(some 5), none, (.mov (.t 21))⟩, ⟨(some 6), none, (.mov (.t 23))⟩]) (.seq (.seq (.reg [⟨(some 24), none, (.mov (.t 0))⟩, ⟨(some 25), none, (.mov (.t 6))⟩, ⟨(some 26), none, (.call 44 [(.t 24), (.t 25)])⟩, ⟨(some 27), none, (.un .not (.t 26))⟩]) (.cond (.t 27) (.seq (.reg [⟨(some 4), none, (.mov (.c (.bool false)))⟩]) .ret) .skip)) (.seq (.reg [⟨(some 28), none, (.mov (.t 5))⟩, ⟨(some 29), none, (.bin false .gtr (.t 28) (.c (.int .i64 0)))⟩, ⟨(some 30), none, (.mov (.t 29))⟩, ⟨(some 31), (some (30, true)), (.mov (.t 1))⟩, ⟨(some 32), (some (30, true)), (.mov (.t 5))⟩, ⟨(some 33), (some (30, true)), (.bin false .sub (.t 32) (.c (.int .i64 1)))⟩, ⟨(some 34), (some (30, true)), (.idx 1 (.t 31) (.t 33))⟩, ⟨(some 35), (some (30, true)), (.ld none (.int .i64 0) (.t 34))⟩, ⟨(some 36), (some (30, true)), (.mov (.t 6))⟩, ⟨(some 37), (some (30, true)), (.call 45 [(.t 35), (.t 36)])⟩, ⟨(some 38), (some (30, true)), (.un .not (.t 37))⟩, ⟨(some 39), none, (.pick (.t 30) (.t 38) (.c (.bool false)))⟩]) (.cond (.t 39) (.seq (.reg [⟨(some 4), none, (.mov (.c (.bool false)))⟩]) .ret) .skip))))) (.reg [⟨(some 40), none, (.bin false .add (.t 19) (.c (.int .i64 1)))⟩, ⟨(some 19), none, (.mov (.t 40))⟩]))))
def sc_i_isAntichain : SC := (.seq (.reg [⟨(some 4), none, (.mov (.c (.bool false)))⟩]) (.seq (.seq (.reg [⟨(some 11), none, (.mov (.t 0))⟩, ⟨(some 12), none, (.bin false .lss (.t 11) (.c (.int .i64 1)))⟩, ⟨(some 13), none, (.mov (.t 12))⟩, ⟨(some 14), (some (13, false)), (.mov (.t 0))⟩, ⟨(some 15), (some (13, false)), (.bin false .gtr (.t 14) (.c (.int .i64 6)))⟩, ⟨(some 16), none, (.pick (.t 13) (.c (.bool true)) (.t 15))⟩]) (.cond (.t 16) (.seq (.reg [⟨(some 4), none, (.mov (.c (.bool false)))⟩]) .ret) .skip)) (.seq (.seq (.reg [⟨(some 17), none, (.mov (.t 1))⟩, ⟨(some 18), none, (.len (.t 17))⟩, ⟨(some 19), none, (.mov (.c (.int .i64 0)))⟩]) (.block 0 (.loop sc_i_isAntichain_L0))) (.seq (.seq (.reg [⟨(some 41), none, (.mov (.t 1))⟩, ⟨(some 42), none, (.len (.t 41))⟩, ⟨(some 43), none, (.mov (.c (.int .i64 0)))⟩]) (.block 2 (.loop sc_i_isAntichain_L2))) (.seq (.reg [⟨(some 4), none, (.mov (.c (.bool true)))⟩]) .ret)))))
theorem code_i_isAntichain : fnCode Tryd.prog [] 28 = some (63, sc_i_isAntichain, [(4, none)]) := by kernel_rfl
theorem andNot_zero {a b : Int} (ha : 0 ≤ a ∧ a < 64) (hb : 0 ≤ b ∧ b < 64) : bitop .andNot .i64 a b = 0 ↔ bitop .and .i64 a b = a := by
  have key : ∀ x, x < 64 → ∀ y, y < 64 → (bitop .andNot .i64 ((x : Nat) : Int) ((y : Nat) : Int) = 0 ↔ bitop .and .i64 ((x : Nat) : Int) ((y : Nat) : Int) = (x : Int)) := by decide +kernel
  have := key a.toNat (by omega) b.toNat (by omega)
  rwa [Int.toNat_of_nonneg ha.1, Int.toNat_of_nonneg hb.1] at this
theorem isSet_six {n s : Int} (h : isSet n s = true) : isSet 6 s = true := by
  have h2 := isSet_pos h
  simp [isSet, h2.1, h2.2]
/-- The first part of what is asked of a facet. -/
def basicOk (n : Int) (l : List Int) (k : Nat) : Prop := isSet n (at0 l k) = true ∧ (0 < k → before (at0 l (k - 1)) (at0 l k) = true)
theorem cplx_of {n : Int} {l : List Int} (h1 : 1 ≤ n) (h2 : n ≤ 6) (hb : ∀ k, k < l.length → basicOk n l k) (ha : ∀ i, i < l.length → ∀ j, i < j → j < l.length → bitop .andNot .i64 (at0 l i) (at0 l j) ≠ 0) : cplxB n l = true := by
  rw [cplxB_iff]
  refine ⟨h1, h2, fun k hk => ⟨(hb k hk).1, (hb k hk).2, fun i hi => ?_⟩⟩
  rw [Ne, ← andNot_zero (isSet_pos (hb i (by omega)).1) (isSet_pos (hb k hk).1)]
  exact ha i (by omega) k hi hk
theorem cplx_not1 {n : Int} {l : List Int} {k : Nat} (hk : k < l.length) (h : ¬ basicOk n l k) : cplxB n l = false := cplxB_not hk fun hf => h ⟨hf.1, hf.2.1⟩
theorem cplx_not2 {n : Int} {l : List Int} (hb : ∀ k, k < l.length → basicOk n l k) {i j : Nat} (hi : i < j) (hj : j < l.length) (h : bitop .andNot .i64 (at0 l i) (at0 l j) = 0) : cplxB n l = false := by
  refine cplxB_not hj fun hf => hf.2.2 i hi ?_
  exact (andNot_zero (isSet_pos (hb i (by omega)).1) (isSet_pos (hb j hj).1)).1 h
noncomputable def F_i_isAntichain : List V → Option V := F2 dI dL fun n l => some (.bool (cplxB n l))
theorem fn_i_isAntichain : FnOk Tryd.prog 28 F_i_isAntichain := by
  have env := ((envNil_ok (P := Tryd.prog)).add fn_i_BeforeSet).add fn_i_IsSet
  refine fn_ok code_i_isAntichain mixed env ?_
  intro args r h hb
  obtain ⟨_, _, n, l, rfl, h1, h2, h4⟩ := F2_inv h
  cases dI_inv h1
  cases dL_inv h2
  cases h4
  have hl := bnd_ints (hb _ (List.mem_cons_of_mem _ (List.mem_cons_self ..)))
  refine ⟨by simp, fun w0 U0 L0 N0 => ?_⟩
  generalize hv : cplxB n l = v
  by_cases hn : 1 ≤ n ∧ n ≤ 6
  · have inner : ∀ (i : Nat) (Q : Post) (L : Tm), (∀ k, k < l.length → basicOk n l k) → i < l.length → subE L [(53, .int .i64 0), (52, .int .i64 ((l.length - (i + 1) : Nat) : Int)), (51, .list 1 (ints (l.drop (i + 1)))), (8, .int .i64 (at0 l i)), (1, .list 1 (ints l)), (41, .list 1 (ints l)), (42, .int .i64 l.length), (43, .int .i64 (i : Int))] →
        ((∀ j, i < j → j < l.length → bitop .andNot .i64 (at0 l i) (at0 l j) ≠ 0) → Q (.exit 4) [(1, .list 1 (ints l)), (41, .list 1 (ints l)), (42, .int .i64 l.length), (43, .int .i64 (i : Int))] ([], 0)) →
        (v = false → Q .ret [(4, .bool false)] ([], 0)) →
        LoopI ⟨Tryd.prog, w0, U0, L0, N0, 0, 63⟩ [] sc_i_isAntichain_L4 Q L ([], 0) := by
      intro i Q L hall hi hs q1 q2
      refine loopQ env mixed (fun j : Nat => [(53, .int .i64 (j : Int)), (52, .int .i64 ((l.length - (i + 1) : Nat) : Int)), (51, .list 1 (ints (l.drop (i + 1)))), (8, .int .i64 (at0 l i)), (1, .list 1 (ints l)), (41, .list 1 (ints l)), (42, .int .i64 l.length), (43, .int .i64 (i : Int))]) (fun _ => ([], 0))
        (fun j => j ≤ l.length - (i + 1) ∧ ∀ t, t < j → bitop .andNot .i64 (at0 l i) (at0 l (i + 1 + t)) ≠ 0) (fun j => l.length - (i + 1) - j) 0 (by simp) (SubI.slots rfl hs) ?_
      rintro j ⟨hj, hnot⟩
      simp -implicitDefEqProofs [sc_i_isAntichain_L4]
      repeat' (first | omega | apply And.intro | intro _)
      · refine SubQ.of (SubI.slots rfl (by simp)) (q2 ?_)
        exact hv ▸ cplx_not2 hall (i := i) (j := i + 1 + j) (by omega) (by omega) (by assumption)
      · refine Again.of (j + 1) ⟨by omega, fun t ht => ?_⟩ (by omega) (SubI.slots rfl (by simp (disch := omega) [wrapI]))
        rcases Nat.lt_succ_iff_lt_or_eq.1 ht with h1 | rfl
        · exact hnot t h1
        · assumption
      · refine SubQ.of (SubI.slots rfl (by simp)) (q1 fun t h1 h2 => ?_)
        have := hnot (t - (i + 1)) (by omega)
        rwa [show i + 1 + (t - (i + 1)) = t by omega] at this
    have second : ∀ (Q : Post) (L : Tm), (∀ k, k < l.length → basicOk n l k) → subE L [(1, .list 1 (ints l)), (41, .list 1 (ints l)), (42, .int .i64 l.length), (43, .int .i64 0)] → (v = true → Q (.exit 2) [] ([], 0)) → (v = false → Q .ret [(4, .bool false)] ([], 0)) →
        LoopI ⟨Tryd.prog, w0, U0, L0, N0, 0, 63⟩ [] sc_i_isAntichain_L2 Q L ([], 0) := by
      intro Q L hall hs q1 q2
      refine loopQ env mixed (fun i : Nat => [(1, .list 1 (ints l)), (41, .list 1 (ints l)), (42, .int .i64 l.length), (43, .int .i64 (i : Int))]) (fun _ => ([], 0))
        (fun i => i ≤ l.length ∧ ∀ t, t < i → ∀ j, t < j → j < l.length → bitop .andNot .i64 (at0 l t) (at0 l j) ≠ 0) (fun i => l.length - i) 0 (by simp) (SubI.slots rfl hs) ?_
      rintro i ⟨hi, hnot⟩
      by_cases hlt : i < l.length
      · have hw : IntKind.i64.wrap ((i : Int) + 1) = ((i + 1 : Nat) : Int) := by rw [wrapI _ (by omega) (by omega)]; omega
        simp -implicitDefEqProofs [sc_i_isAntichain_L2, hlt, hw]
        have e1 : ((l.length : Int) - ((i : Int) + 1)).toNat = l.length - (i + 1) := by omega
        repeat' (first | omega | apply And.intro | intro _)
        refine inner i _ _ hall hlt (by simp [e1, List.take_of_length_le]) (fun hq => ?_) (fun hq => ?_)
        · simp -implicitDefEqProofs
          refine Again.of (i + 1) ⟨by omega, fun t ht => ?_⟩ (by omega) (SubI.slots rfl (by simp (disch := omega) [wrapI]))
          rcases Nat.lt_succ_iff_lt_or_eq.1 ht with h1 | rfl
          · exact hnot t h1
          · exact hq
        · simp -implicitDefEqProofs
          exact SubQ.of (SubI.slots rfl (by simp)) (q2 hq)
      · simp -implicitDefEqProofs [sc_i_isAntichain_L2, hlt]
        exact SubQ.of (SubI.slots rfl (by simp)) (q1 (hv ▸ cplx_of hn.1 hn.2 hall fun t h1 => hnot t (by omega)))
    simp -implicitDefEqProofs [sc_i_isAntichain, hn.1, hn.2, show ¬ n < 1 by omega, show ¬ 6 < n by omega]
    refine loopI env mixed (fun k : Nat => [(0, .int .i64 n), (1, .list 1 (ints l)), (17, .list 1 (ints l)), (18, .int .i64 l.length), (19, .int .i64 (k : Int))]) (fun _ => ([], 0))
        (fun k => k ≤ l.length ∧ ∀ t, t < k → basicOk n l t) (fun k => l.length - k) 0 (by simp) (SubI.slots rfl (by simp)) ?_
    rintro k ⟨hk, hall⟩
    by_cases hlt : k < l.length
    · by_cases hs : isSet n (at0 l k) = true
      · have hs6 := isSet_six hs
        by_cases h0 : 0 < k
        · have hp := isSet_six (hall (k - 1) (by omega)).1
          have hw : (IntKind.i64.wrap ((k : Int) - 1)) = ((k - 1 : Nat) : Int) := by rw [wrapI _ (by omega) (by omega)]; omega
          by_cases hbf : before (at0 l (k - 1)) (at0 l k) = true
          · simp -implicitDefEqProofs [sc_i_isAntichain_L0, F_i_IsSet, F_i_BeforeSet, hlt, hs, hs6, h0, hw, hp, hbf]
            repeat' (first | omega | apply And.intro | intro _)
            refine Again.of (k + 1) ⟨by omega, fun t ht => ?_⟩ (by omega) (SubI.slots rfl (by simp (disch := omega) [wrapI]))
            rcases Nat.lt_succ_iff_lt_or_eq.1 ht with h1 | rfl
            · exact hall t h1
            · exact ⟨hs, fun _ => hbf⟩
          · have hf : v = false := hv ▸ cplx_not1 hlt fun hf => hbf (hf.2 h0)
            simp only [Bool.not_eq_true] at hbf
            simp -implicitDefEqProofs [sc_i_isAntichain_L0, F_i_IsSet, F_i_BeforeSet, hlt, hs, hs6, h0, hw, hp, hbf, hf]
            omega
        · simp -implicitDefEqProofs [sc_i_isAntichain_L0, F_i_IsSet, F_i_BeforeSet, hlt, hs, hs6, h0]
          repeat' (first | omega | apply And.intro | intro _)
          refine Again.of (k + 1) ⟨by omega, fun t ht => ?_⟩ (by omega) (SubI.slots rfl (by simp (disch := omega) [wrapI]))
          rcases Nat.lt_succ_iff_lt_or_eq.1 ht with h1 | rfl
          · exact hall t h1
          · exact ⟨hs, fun h => absurd h h0⟩
      · have hf : v = false := hv ▸ cplx_not1 hlt fun hf => hs hf.1
        simp only [Bool.not_eq_true] at hs
        simp -implicitDefEqProofs [sc_i_isAntichain_L0, F_i_IsSet, F_i_BeforeSet, hlt, hs, hf]
        omega
    · simp -implicitDefEqProofs [sc_i_isAntichain_L0, hlt]
      refine second _ _ (fun t ht => hall t (by omega)) (by simp) (fun e => ?_) (fun e => ?_)
      · simp -implicitDefEqProofs [e]
      · simp -implicitDefEqProofs [e]
  · have hf : v = false := by
      rw [← hv, ← Bool.not_eq_true, cplxB_iff]
      exact fun h => hn ⟨h.1, h.2.1⟩
    by_cases h1 : n < 1
    · simp -implicitDefEqProofs [sc_i_isAntichain, hf, h1]
    · simp -implicitDefEqProofs [sc_i_isAntichain, hf, h1, show 6 < n by omega]
def sc_i_IsComplex : SC := (.seq (.reg [⟨(some 1), none, (.box (.t 0))⟩, ⟨(some 2), none, (.mov (.c (.bool false)))⟩]) (.seq (.reg [⟨(some 3), none, (.fad 0 (.t 1))⟩, ⟨(some 4), none, (.ld none (.int .i64 0) (.t 3))⟩, ⟨(some 5), none, (.fad 1 (.t 1))⟩, ⟨(some 6), none, (.ld none .nil (.t 5))⟩, ⟨(some 7), none, (.call 28 [(.t 4), (.t 6)])⟩, ⟨(some 2), none, (.mov (.t 7))⟩]) .ret))
theorem code_i_IsComplex : fnCode Tryd.prog [] 16 = some (8, sc_i_IsComplex, [(2, none)]) := by kernel_rfl
theorem fn_i_IsComplex : FnOk Tryd.prog 16 F_s_IsComplex := by
  have env := (envNil_ok (P := Tryd.prog)).add fn_i_isAntichain
  refine fn_ok code_i_IsComplex mixed env ?_
  intro args r h hb
  obtain ⟨_, ⟨n, l⟩, rfl, h1, h4⟩ := F1_inv h
  cases dC_inv h1
  cases h4
  refine ⟨by simp, fun w0 U0 L0 N0 => ?_⟩
  simp -implicitDefEqProofs [sc_i_IsComplex, F_i_isAntichain]
end Go.Proofs.YtkoljbncokmeaaaDoor
namespace Go.Proofs.YtkoljbncokmeaaaDoor
open Go Go.RowKit
set_option maxRecDepth 1000000
set_option linter.unusedSimpArgs false
set_option linter.unusedVariables false
set_option maxHeartbeats 1000000
theorem sub_len {l : List Int} : ∀ {m : List Int}, l.Nodup → (∀ x ∈ l, x ∈ m) → l.length ≤ m.length := by
  induction l with
  | nil => intro m _ _; simp
  | cons a l ih =>
    intro m hn hs
    rw [List.nodup_cons] at hn
    have ha : a ∈ m := hs a (by simp)
    have := ih (m := m.erase a) hn.2 fun x hx => (List.mem_erase_of_ne fun e => hn.1 (by rw [← e]; exact hx)).2 (hs x (by simp [hx]))
    rw [List.length_erase_of_mem ha] at this
    have : 0 < m.length := List.length_pos_of_mem ha
    simp only [List.length_cons]
    omega
end Go.Proofs.YtkoljbncokmeaaaDoor
namespace Go.Proofs.YtkoljbncokmeaaaDoor
open Go Go.RowKit
set_option maxRecDepth 1000000
set_option linter.unusedSimpArgs false
set_option linter.unusedVariables false
set_option maxHeartbeats 1000000
def isS (x : Int) : Prop := 0 ≤ x ∧ x < 64
def allS (l : List Int) : Prop := ∀ x ∈ l, isS x
theorem allS_at {l : List Int} (h : allS l) {j : Nat} (hj : j < l.length) : isS (at0 l j) := h _ (getD_mem' hj)
theorem forS {p : Int → Prop} (h : ∀ x : Nat, x < 64 → p x) {a : Int} (ha : isS a) : p a := by
  have := h a.toNat (by have := ha.1; have := ha.2; omega)
  rwa [Int.toNat_of_nonneg ha.1] at this
abbrev band (a b : Int) : Int := bitop .and .i64 a b
abbrev bnot (a b : Int) : Int := bitop .andNot .i64 a b
/-- Is the point in the set. -/
def tb (a : Int) (i : Nat) : Prop := band a (2 ^ i) ≠ 0
instance (a : Int) (i : Nat) : Decidable (tb a i) := by unfold tb; infer_instance
theorem isS_nat0 {s : Int} (h : isS s) : ∃ k : Nat, k < 64 ∧ s = k := ⟨s.toNat, by unfold isS at h; omega, by unfold isS at h; omega⟩
theorem band_nat0 (a b : Nat) (ha : a < 64) (hb : b < 64) : band a b = ((a &&& b : Nat) : Int) := bits_and a b (by omega) (by omega)
theorem bnot_nat0 (a b : Nat) (ha : a < 64) (hb : b < 64) : bnot a b = ((a - (a &&& b) : Nat) : Int) := by
  have key : ∀ a : Nat, a < 64 → ∀ b : Nat, b < 64 → a &&& (2 ^ 64 - 1 - b) = a - (a &&& b) := by decide +kernel
  have e : bnot (a : Int) (b : Int) = IntKind.i64.wrap ((BitVec.ofInt 64 (a : Int) &&& ~~~ BitVec.ofInt 64 (b : Int)).toNat) := rfl
  have h1 : a &&& (2 ^ 64 - 1 - b) ≤ a := Nat.and_le_left
  rw [e, BitVec.ofInt_natCast, BitVec.ofInt_natCast, BitVec.toNat_and, BitVec.toNat_not, BitVec.toNat_ofNat, BitVec.toNat_ofNat]
  rw [Nat.mod_eq_of_lt (by omega), Nat.mod_eq_of_lt (by omega), ← key a ha b hb]
  exact wrapI _ (by omega) (by omega)
theorem and_lt64 {x y : Nat} (hx : x < 64) : x &&& y < 64 := Nat.lt_of_le_of_lt Nat.and_le_left hx
theorem isS_bnot {a b : Int} (ha : isS a) (hb : isS b) : isS (bnot a b) := by
  obtain ⟨x, hx, rfl⟩ := isS_nat0 ha
  obtain ⟨y, hy, rfl⟩ := isS_nat0 hb
  rw [bnot_nat0 x y hx hy]
  unfold isS; omega
theorem isS_band {a b : Int} (ha : isS a) (hb : isS b) : isS (band a b) := by
  obtain ⟨x, hx, rfl⟩ := isS_nat0 ha
  obtain ⟨y, hy, rfl⟩ := isS_nat0 hb
  rw [band_nat0 x y hx hy]
  have := and_lt64 (y := y) hx
  unfold isS; omega
theorem pc6 : ∀ n : Nat, n < 64 → pc n = pcF 6 n := by decide +kernel
theorem take_at {l : List Int} {k : Nat} (h : k < l.length) : l.take (k + 1) = l.take k ++ [at0 l k] := by
  rw [at0_eq h, List.take_succ_eq_append_getElem h]
end Go.Proofs.YtkoljbncokmeaaaDoor
namespace Go.Proofs.YtkoljbncokmeaaaDoor
open Go Go.RowKit
set_option maxRecDepth 1000000
set_option linter.unusedSimpArgs false
set_option linter.unusedVariables false
set_option maxHeartbeats 1000000
open Classical in
noncomputable def dec (p : Prop) : Bool := decide p
theorem dec_true {p : Prop} (h : p) : dec p = true := by simp [dec, h]
theorem dec_false {p : Prop} (h : ¬ p) : dec p = false := by simp [dec, h]
theorem dec_iff {p : Prop} : dec p = true ↔ p := by simp [dec]
end Go.Proofs.YtkoljbncokmeaaaDoor
namespace Go.Proofs.YtkoljbncokmeaaaDoor
open Go Go.RowKit
set_option maxRecDepth 1000000
set_option linter.unusedSimpArgs false
set_option linter.unusedVariables false
set_option maxHeartbeats 1000000
theorem before_trans {a b c : Int} (h1 : before a b = true) (h2 : before b c = true) : before a c = true := by
  simp only [before, decide_eq_true_eq] at *
  omega
theorem cplx_isS {n : Int} {l : List Int} (h : cplx n l) : allS l := by
  intro x hx
  obtain ⟨j, hj, rfl⟩ := getD_mem_iff.1 hx
  exact isSet_pos (h.2.2 j hj).1
end Go.Proofs.YtkoljbncokmeaaaDoor
namespace Go.Proofs.YtkoljbncokmeaaaDoor
open Go Go.RowKit
set_option maxRecDepth 1000000
set_option linter.unusedSimpArgs false
set_option linter.unusedVariables false
set_option maxHeartbeats 1000000
def allR (l : List Int) : Prop := ∀ x ∈ l, inR x
end Go.Proofs.YtkoljbncokmeaaaDoor
namespace Go.Proofs.YtkoljbncokmeaaaDoor
open Go Go.RowKit
set_option maxRecDepth 1000000
set_option linter.unusedSimpArgs false
set_option linter.unusedVariables false
set_option maxHeartbeats 1000000
def sc_i_hasSet : SC := (.seq (.reg [⟨(some 4), none, (.mov (.c (.bool false)))⟩]) (.seq (.reg [⟨(some 5), none, (.mov (.t 0))⟩, ⟨(some 6), none, (.mov (.t 1))⟩, ⟨(some 7), none, (.conv .u64 (.t 6))⟩, ⟨(some 8), none, (.bin false .shr (.t 5) (.t 7))⟩, ⟨(some 9), none, (.bin false .and (.t 8) (.c (.int .u64 1)))⟩, ⟨(some 10), none, (.bin false .eql (.t 9) (.c (.int .u64 1)))⟩, ⟨(some 4), none, (.mov (.t 10))⟩]) .ret))
theorem code_i_hasSet : fnCode Tryd.prog [] 47 = some (11, sc_i_hasSet, [(4, none)]) := by kernel_rfl
def dU : V → Option Int
  | .int .u64 n => some n
  | _ => none
@[simp] theorem dU_int (n : Int) : dU (.int .u64 n) = some n := rfl
theorem dU_inv {v : V} {n : Int} (h : dU v = some n) : v = .int .u64 n := by
  unfold dU at h
  split at h
  · injection h with h; rw [h]
  · simp at h
noncomputable def hasG (f s : Int) : Option V := @ite _ (0 ≤ f ∧ f < 18446744073709551616 ∧ 0 ≤ s ∧ s < 64) (Classical.propDecidable _) (some (.bool (f.toNat.testBit s.toNat))) none
noncomputable def F_i_hasSet : List V → Option V := F2 dU dI hasG
theorem fn_i_hasSet : FnOk Tryd.prog 47 F_i_hasSet := by
  refine fn_ok code_i_hasSet mixed envNil_ok ?_
  intro args r h hb
  obtain ⟨_, _, f, s, rfl, h1, h2, h4⟩ := F2_inv h
  cases dU_inv h1
  cases dI_inv h2
  clear h
  simp only [hasG, Option.ite_none_right_eq_some, Option.some.injEq] at h4
  obtain ⟨⟨h1, h2, h3, h5⟩, rfl⟩ := h4
  refine ⟨by simp, fun w0 U0 L0 N0 => ?_⟩
  obtain ⟨m, rfl⟩ : ∃ m : Nat, f = m := ⟨f.toNat, by omega⟩
  obtain ⟨k, rfl⟩ : ∃ k : Nat, s = k := ⟨s.toNat, by omega⟩
  have hu : IntKind.u64.wrap (k : Int) = k := wrapU _ (by omega) (by omega)
  have hm : min k IntKind.u64.bits = k := by simp only [IntKind.bits]; omega
  have hd : (m : Int).fdiv (2 ^ k) = ((m / 2 ^ k : Nat) : Int) := by
    rw [Int.fdiv_eq_ediv_of_nonneg _ (by have := Int.natCast_nonneg (2 ^ k); simpa using this)]
    simp
  have hb : bitop .and .u64 (((m / 2 ^ k : Nat) : Int)) 1 = ((m / 2 ^ k % 2 : Nat) : Int) := by
    have hle : m / 2 ^ k ≤ m := Nat.div_le_self ..
    rw [show (1 : Int) = ((1 : Nat) : Int) from rfl, bitsU_and _ 1 (by omega) (by omega), Nat.and_one_is_mod]
  have ht : (((m / 2 ^ k % 2 : Nat) : Int) == 1) = m.testBit k := by
    rw [Nat.testBit_eq_decide_div_mod_eq]
    generalize m / 2 ^ k % 2 = x
    rw [Bool.eq_iff_iff, beq_iff_eq, decide_eq_true_iff]
    omega
  simp -implicitDefEqProofs [sc_i_hasSet, hu, hm, hd]
  have hq : (m : Int) / 2 ^ k = ((m / 2 ^ k : Nat) : Int) := by simp
  rw [hq, hb]
  exact ht
end Go.Proofs.YtkoljbncokmeaaaDoor
namespace Go.Proofs.YtkoljbncokmeaaaDoor
open Go Go.RowKit
set_option maxRecDepth 1000000
set_option linter.unusedSimpArgs false
set_option linter.unusedVariables false
set_option maxHeartbeats 1000000
theorem nodup_len {l : List Int} (h : l.Nodup) (hS : allS l) : l.length ≤ 64 := by
  have := sub_len (m := (List.range 64).map fun (k : Nat) => (k : Int)) h fun x hx => by
    refine List.mem_map.2 ⟨x.toNat, ?_, ?_⟩
    · have := hS x hx; rw [List.mem_range]; unfold isS at this; omega
    · exact Int.toNat_of_nonneg (hS x hx).1
  simpa using this
end Go.Proofs.YtkoljbncokmeaaaDoor
namespace Go.Proofs.YtkoljbncokmeaaaDoor
open Go Go.RowKit
set_option maxRecDepth 1000000
set_option linter.unusedSimpArgs false
set_option linter.unusedVariables false
set_option maxHeartbeats 1000000
/-- Families of sets as words of 64 bits. -/
theorem inS (k : Nat) (h : k < 64) : isS (k : Int) := by unfold isS; omega
theorem isS_nat {s : Int} (h : isS s) : ∃ k : Nat, k < 64 ∧ s = k := ⟨s.toNat, by unfold isS at h; omega, by unfold isS at h; omega⟩
open Classical in
noncomputable def famN (p : Int → Prop) : Nat → Nat
  | 0 => 0
  | k + 1 => if p (k : Int) then 2 ^ k + famN p k else famN p k
theorem famN_lt (p : Int → Prop) : ∀ k, famN p k < 2 ^ k
  | 0 => by simp [famN]
  | k + 1 => by
    have := famN_lt p k
    have h2 : 2 ^ (k + 1) = 2 ^ k + 2 ^ k := by rw [Nat.pow_succ]; omega
    simp only [famN]
    split <;> omega
theorem famN_bit (p : Int → Prop) : ∀ k j, (famN p k).testBit j = true ↔ (j < k ∧ p (j : Int))
  | 0, j => by simp [famN]
  | k + 1, j => by
    have ih := famN_bit p k j
    have hl := famN_lt p k
    simp only [famN]
    split
    · rename_i hp
      rcases Nat.lt_trichotomy j k with h | h | h
      · rw [Nat.testBit_two_pow_add_gt h, ih]
        constructor
        · rintro ⟨_, b⟩; exact ⟨by omega, b⟩
        · rintro ⟨_, b⟩; exact ⟨h, b⟩
      · subst h
        rw [Nat.testBit_two_pow_add_eq, Nat.testBit_lt_two_pow hl]
        simp [hp]
      · have h3 : 2 ^ k + famN p k < 2 ^ j := by
          have : 2 ^ (k + 1) ≤ 2 ^ j := Nat.pow_le_pow_right (by omega) h
          rw [Nat.pow_succ] at this
          omega
        rw [Nat.testBit_lt_two_pow h3]
        constructor
        · intro h; simp at h
        · rintro ⟨h4, _⟩; omega
    · rename_i hp
      rw [ih]
      constructor
      · rintro ⟨a, b⟩; exact ⟨by omega, b⟩
      · rintro ⟨a, b⟩
        rcases Nat.lt_succ_iff_lt_or_eq.1 a with h | rfl
        · exact ⟨h, b⟩
        · exact absurd b hp
theorem fam_ex (p : Int → Prop) : ∃ m : Nat, m < 18446744073709551616 ∧ ∀ k : Nat, m.testBit k = true ↔ (k < 64 ∧ p (k : Int)) := ⟨famN p 64, famN_lt p 64, famN_bit p 64⟩
/-- The number of a family; by choice, so that no checker unfolds it. -/
noncomputable def famW (p : Int → Prop) : Nat := Classical.choose (fam_ex p)
theorem famW_lt (p : Int → Prop) : famW p < 18446744073709551616 := (Classical.choose_spec (fam_ex p)).1
theorem famW_bit (p : Int → Prop) (k : Nat) : (famW p).testBit k = true ↔ (k < 64 ∧ p (k : Int)) := (Classical.choose_spec (fam_ex p)).2 k
theorem fam_exI (p : Int → Prop) : ∃ m : Int, m = (famW p : Nat) := ⟨_, rfl⟩
/-- By choice once more: a checker that sees a number without sign begins to count. -/
noncomputable def fam (p : Int → Prop) : Int := Classical.choose (fam_exI p)
theorem fam_eq (p : Int → Prop) : fam p = (famW p : Nat) := Classical.choose_spec (fam_exI p)
theorem fam_nn (p : Int → Prop) : 0 ≤ fam p := by rw [fam_eq]; omega
theorem fam_lt (p : Int → Prop) : fam p < 18446744073709551616 := by
  have := famW_lt p
  rw [fam_eq]
  omega
theorem fam_bit (p : Int → Prop) {s : Int} (hs : isS s) : (fam p).toNat.testBit s.toNat = dec (p s) := by
  obtain ⟨k, hk, rfl⟩ := isS_nat hs
  rw [Bool.eq_iff_iff, dec_iff]
  rw [fam_eq, Int.toNat_natCast, Int.toNat_natCast]
  rw [famW_bit]
  exact ⟨fun h => h.2, fun h => ⟨hk, h⟩⟩
theorem fam_ext {m : Nat} (hm : m < 18446744073709551616) {p : Int → Prop} (h : ∀ k : Nat, k < 64 → (m.testBit k = true ↔ p (k : Int))) : (m : Int) = fam p := by
  rw [fam_eq]
  congr 1
  apply Nat.eq_of_testBit_eq
  intro k
  rw [Bool.eq_iff_iff, famW_bit]
  by_cases hk : k < 64
  · rw [h k hk]
    exact ⟨fun a => ⟨hk, a⟩, fun a => a.2⟩
  · have h2 : m < 2 ^ k := Nat.lt_of_lt_of_le (show m < 2 ^ 64 from hm) (Nat.pow_le_pow_right (by omega) (by omega))
    rw [Nat.testBit_lt_two_pow h2]
    constructor
    · intro h; simp at h
    · rintro ⟨h4, _⟩; omega
theorem fam_congr {p q : Int → Prop} (h : ∀ s, isS s → (p s ↔ q s)) : fam p = fam q :=
  (fam_eq p).trans <| fam_ext (famW_lt p) fun k hk => by rw [famW_bit, ← h _ (inS k hk)]; exact ⟨fun a => a.2, fun a => ⟨hk, a⟩⟩
theorem fam_inj {p q : Int → Prop} : fam p = fam q ↔ ∀ s, isS s → (p s ↔ q s) := by
  refine ⟨fun h s hs => ?_, fam_congr⟩
  have h1 := fam_bit p hs
  rw [h, fam_bit q hs] at h1
  exact ⟨fun h => dec_iff.1 (h1 ▸ dec_true h), fun h => dec_iff.1 (h1 ▸ dec_true h)⟩
theorem fam_none : fam (fun _ => False) = 0 := (fam_ext (m := 0) (by omega) fun k _ => by simp).symm
theorem fam_zero {p : Int → Prop} : fam p = 0 ↔ ∀ s, isS s → ¬ p s := by
  rw [← fam_none, fam_inj]
  exact ⟨fun h s hs hp => (h s hs).1 hp, fun h s hs => ⟨h s hs, False.elim⟩⟩
@[simp] theorem fam_or (p q : Int → Prop) : bitop .or .u64 (fam p) (fam q) = fam fun s => p s ∨ q s := by
  rw [fam_eq, fam_eq, bitsU_or _ _ (famW_lt p) (famW_lt q)]
  refine fam_ext (Nat.or_lt_two_pow (n := 64) (famW_lt p) (famW_lt q)) fun k hk => ?_
  rw [Nat.testBit_or, Bool.or_eq_true, famW_bit, famW_bit]
  simp [hk]
@[simp] theorem fam_and (p q : Int → Prop) : bitop .and .u64 (fam p) (fam q) = fam fun s => p s ∧ q s := by
  rw [fam_eq, fam_eq, bitsU_and _ _ (famW_lt p) (famW_lt q)]
  refine fam_ext (Nat.lt_of_le_of_lt Nat.and_le_left (famW_lt p)) fun k hk => ?_
  rw [Nat.testBit_and, Bool.and_eq_true, famW_bit, famW_bit]
  simp [hk]
theorem bitsU_not (a b : Nat) (ha : a < 18446744073709551616) (hb : b < 18446744073709551616) : bitop .andNot .u64 (a : Int) (b : Int) = ((a &&& (2 ^ 64 - 1 - b) : Nat) : Int) := by
  have e : bitop .andNot .u64 (a : Int) (b : Int) = IntKind.u64.wrap ((BitVec.ofInt 64 (a : Int) &&& ~~~ BitVec.ofInt 64 (b : Int)).toNat) := rfl
  have h1 : a &&& (2 ^ 64 - 1 - b) ≤ a := Nat.and_le_left
  rw [e, BitVec.ofInt_natCast, BitVec.ofInt_natCast, BitVec.toNat_and, BitVec.toNat_not, BitVec.toNat_ofNat, BitVec.toNat_ofNat]
  rw [Nat.mod_eq_of_lt (by omega), Nat.mod_eq_of_lt (by omega)]
  exact wrapU _ (by omega) (by omega)
@[simp] theorem fam_not (p q : Int → Prop) : bitop .andNot .u64 (fam p) (fam q) = fam fun s => p s ∧ ¬ q s := by
  rw [fam_eq, fam_eq, bitsU_not _ _ (famW_lt p) (famW_lt q)]
  refine fam_ext (Nat.lt_of_le_of_lt Nat.and_le_left (famW_lt p)) fun k hk => ?_
  have h := famW_lt q
  rw [Nat.testBit_and, Bool.and_eq_true, famW_bit, show 2 ^ 64 - 1 - famW q = 2 ^ 64 - (famW q + 1) by omega, Nat.testBit_two_pow_sub_succ h]
  have := famW_bit q k
  cases hb : (famW q).testBit k with
  | false =>
    rw [hb] at this
    simp [hk] at this ⊢
    simp [this]
  | true =>
    rw [hb] at this
    simp [hk] at this ⊢
    simp [this]
/-- One set as a family. -/
theorem fam_one {s : Int} (hs : isS s) : IntKind.u64.wrap (2 ^ min s.toNat IntKind.u64.bits) = fam fun t => t = s := by
  obtain ⟨k, hk, rfl⟩ := isS_nat hs
  have h1 : min (k : Int).toNat IntKind.u64.bits = k := by simp only [IntKind.bits]; omega
  have h2 : 2 ^ k < 18446744073709551616 := Nat.pow_lt_pow_right (by omega) hk
  rw [h1]
  have h3 : ((2 : Int) ^ k) = ((2 ^ k : Nat) : Int) := by simp
  rw [h3, wrapU _ (Int.natCast_nonneg _) (by omega)]
  refine fam_ext h2 fun j hj => ?_
  rw [Nat.testBit_two_pow]
  simp
  omega
theorem wrapS {s : Int} (hs : isS s) : IntKind.u64.wrap s = s := wrapU _ hs.1 (by have := hs.2; omega)
/-- Is a set part of another. -/
def subS (a b : Int) : Prop := bnot a b = 0
theorem hasG_fam {p : Int → Prop} {s : Int} (hs : isS s) : hasG (fam p) s = some (.bool (dec (p s))) := by
  have h1 := fam_nn p
  have h2 := fam_lt p
  have h3 := hs.1
  have h4 := hs.2
  simp only [hasG, h1, h2, h3, h4, and_self, if_true, fam_bit p hs]
end Go.Proofs.YtkoljbncokmeaaaDoor
namespace Go.Proofs.YtkoljbncokmeaaaDoor
open Go Go.RowKit
set_option maxRecDepth 1000000
set_option linter.unusedSimpArgs false
set_option linter.unusedVariables false
set_option maxHeartbeats 1000000
/-- Sets below 64 as numbers: facts by trial, over numbers that are not below zero. -/
theorem band_nat (a b : Nat) (ha : a < 64) (hb : b < 64) : band a b = ((a &&& b : Nat) : Int) := bits_and a b (by omega) (by omega)
theorem bits_not (a b : Nat) (ha : a < 9223372036854775808) (hb : b < 9223372036854775808) : bitop .andNot .i64 (a : Int) (b : Int) = ((a &&& (2 ^ 64 - 1 - b) : Nat) : Int) := by
  have e : bitop .andNot .i64 (a : Int) (b : Int) = IntKind.i64.wrap ((BitVec.ofInt 64 (a : Int) &&& ~~~ BitVec.ofInt 64 (b : Int)).toNat) := rfl
  have h1 : a &&& (2 ^ 64 - 1 - b) ≤ a := Nat.and_le_left
  rw [e, BitVec.ofInt_natCast, BitVec.ofInt_natCast, BitVec.toNat_and, BitVec.toNat_not, BitVec.toNat_ofNat, BitVec.toNat_ofNat]
  rw [Nat.mod_eq_of_lt (by omega), Nat.mod_eq_of_lt (by omega)]
  exact wrapI _ (by omega) (by omega)
theorem bnot_nat (a b : Nat) (ha : a < 64) (hb : b < 64) : bnot a b = ((a - (a &&& b) : Nat) : Int) := by
  have key : ∀ a : Nat, a < 64 → ∀ b : Nat, b < 64 → a &&& (2 ^ 64 - 1 - b) = a - (a &&& b) := by decide +kernel
  rw [show bnot a b = _ from bits_not a b (by omega) (by omega), key a ha b hb]
theorem subS_nat (a b : Nat) (ha : a < 64) (hb : b < 64) : subS a b ↔ a &&& b = a := by
  unfold subS
  rw [bnot_nat a b ha hb]
  have : a &&& b ≤ a := Nat.and_le_left
  omega
theorem subS_iff {a b : Int} (ha : isS a) (hb : isS b) : subS a b ↔ band a b = a := by
  obtain ⟨x, hx, rfl⟩ := isS_nat ha
  obtain ⟨y, hy, rfl⟩ := isS_nat hb
  rw [subS_nat x y hx hy, band_nat x y hx hy]
  omega
theorem subS_iff' {a b : Int} (ha : isS a) (hb : isS b) : subS a b ↔ band b a = a := by
  obtain ⟨x, hx, rfl⟩ := isS_nat ha
  obtain ⟨y, hy, rfl⟩ := isS_nat hb
  rw [subS_nat x y hx hy, band_nat y x hy hx, Nat.and_comm]
  omega
theorem subS_bits {a b : Int} (ha : isS a) (hb : isS b) : subS a b ↔ ∀ i : Nat, a.toNat.testBit i = true → b.toNat.testBit i = true := by
  obtain ⟨x, hx, rfl⟩ := isS_nat ha
  obtain ⟨y, hy, rfl⟩ := isS_nat hb
  rw [subS_nat x y hx hy]
  simp only [Int.toNat_natCast]
  constructor
  · intro h i hi
    rw [← h, Nat.testBit_and, Bool.and_eq_true] at hi
    exact hi.2
  · intro h
    apply Nat.eq_of_testBit_eq
    intro i
    rw [Nat.testBit_and]
    cases hi : x.testBit i with
    | false => rfl
    | true => simp [h i hi]
theorem subS_refl {a : Int} (ha : isS a) : subS a a := (subS_bits ha ha).2 fun _ h => h
theorem subS_trans {a b c : Int} (ha : isS a) (hb : isS b) (hc : isS c) (h1 : subS a b) (h2 : subS b c) : subS a c :=
  (subS_bits ha hc).2 fun i h => (subS_bits hb hc).1 h2 i ((subS_bits ha hb).1 h1 i h)
theorem subS_le {a b : Int} (ha : isS a) (hb : isS b) (h : subS a b) : a ≤ b := by
  obtain ⟨x, hx, rfl⟩ := isS_nat ha
  obtain ⟨y, hy, rfl⟩ := isS_nat hb
  rw [subS_nat x y hx hy] at h
  have : x &&& y ≤ y := Nat.and_le_right
  omega
theorem subS_anti {a b : Int} (ha : isS a) (hb : isS b) (h : subS a b) (h2 : subS b a) : a = b := by
  have := subS_le ha hb h
  have := subS_le hb ha h2
  omega
theorem isS_zero : isS 0 := by unfold isS; omega
theorem subS_zero {a : Int} (ha : isS a) : subS 0 a := by
  obtain ⟨x, hx, rfl⟩ := isS_nat ha
  exact (subS_nat 0 x (by omega) hx).2 (by simp)
/-- The next part of s below t. -/
theorem sub_next {s t : Int} (hs : isS s) (ht : isS t) (hts : subS t s) (h0 : t ≠ 0) : isS (band (t - 1) s) ∧ subS (band (t - 1) s) s ∧ band (t - 1) s < t ∧ ∀ u, isS u → subS u s → u < t → u ≤ band (t - 1) s := by
  obtain ⟨x, hx, rfl⟩ := isS_nat hs
  obtain ⟨y, hy, rfl⟩ := isS_nat ht
  have hy0 : 0 < y := by omega
  rw [subS_nat y x hy hx] at hts
  have e : ((y : Int) - 1) = ((y - 1 : Nat) : Int) := by omega
  have hl : (y - 1) &&& x ≤ y - 1 := Nat.and_le_left
  rw [e, band_nat (y - 1) x (by omega) hx]
  refine ⟨inS _ (by omega), (subS_nat _ _ (by omega) hx).2 (by rw [Nat.and_assoc, Nat.and_self]), by omega, ?_⟩
  intro u hu hus hut
  obtain ⟨z, hz, rfl⟩ := isS_nat hu
  rw [subS_nat z x hz hx] at hus
  have key : ∀ x : Nat, x < 64 → ∀ y : Nat, y < 64 → (y &&& x != y || (List.range 64).all fun z => z &&& x != z || decide (y ≤ z) || decide (z ≤ (y - 1) &&& x)) = true := by decide +kernel
  have := key x hx y hy
  rw [Bool.or_eq_true, List.all_eq_true] at this
  rcases this with h | h
  · simp [hts] at h
  · have h := h z (List.mem_range.2 hz)
    simp only [hus, bne_self_eq_false, Bool.false_or, Bool.or_eq_true, decide_eq_true_eq] at h
    omega
/-- Faces. -/
def faceS (l : List Int) (s : Int) : Prop := ∃ f ∈ l, subS s f
theorem faceS_snoc {l : List Int} {f s : Int} : faceS (l ++ [f]) s ↔ faceS l s ∨ subS s f := by
  unfold faceS
  constructor
  · rintro ⟨g, h1, h2⟩
    rcases List.mem_append.1 h1 with h | h
    · exact .inl ⟨g, h, h2⟩
    · exact .inr (by simpa using (List.mem_singleton.1 h) ▸ h2)
  · rintro (⟨g, h1, h2⟩ | h)
    · exact ⟨g, by simp [h1], h2⟩
    · exact ⟨f, by simp, h⟩
theorem faceS_sub {l : List Int} (hl : allS l) {s t : Int} (hs : isS s) (ht : isS t) (h : subS s t) (hf : faceS l t) : faceS l s := by
  obtain ⟨f, h1, h2⟩ := hf
  exact ⟨f, h1, subS_trans hs ht (hl f h1) h h2⟩
open Classical in
/-- The sets below k with a property, from the least to the greatest number. -/
noncomputable def upS (p : Int → Prop) : Nat → List Int
  | 0 => []
  | k + 1 => if p (k : Int) then upS p k ++ [(k : Int)] else upS p k
theorem upS_pos {p : Int → Prop} {k : Nat} (h : p (k : Int)) : upS p (k + 1) = upS p k ++ [(k : Int)] := by simp only [upS, if_pos h]
theorem upS_neg {p : Int → Prop} {k : Nat} (h : ¬ p (k : Int)) : upS p (k + 1) = upS p k := by simp only [upS, if_neg h]
theorem mem_upS {p : Int → Prop} {s : Int} : ∀ {k : Nat}, s ∈ upS p k ↔ 0 ≤ s ∧ s < k ∧ p s := by
  intro k
  induction k with
  | zero => simp only [upS, List.not_mem_nil, false_iff]; omega
  | succ k ih =>
    by_cases h : p (k : Int)
    · rw [upS_pos h, List.mem_append, ih, List.mem_singleton]
      constructor
      · rintro (⟨a, b, c⟩ | rfl)
        · exact ⟨a, by omega, c⟩
        · exact ⟨by omega, by omega, h⟩
      · rintro ⟨a, b, c⟩
        by_cases e : s = (k : Int)
        · exact .inr e
        · exact .inl ⟨a, by omega, c⟩
    · rw [upS_neg h, ih]
      constructor
      · rintro ⟨a, b, c⟩; exact ⟨a, by omega, c⟩
      · rintro ⟨a, b, c⟩
        refine ⟨a, ?_, c⟩
        by_cases e : s = (k : Int)
        · exact absurd (e ▸ c) h
        · omega
theorem mem_upS64 {p : Int → Prop} {s : Int} : s ∈ upS p 64 ↔ isS s ∧ p s := by
  rw [mem_upS]
  unfold isS
  exact ⟨fun ⟨a, b, c⟩ => ⟨⟨a, b⟩, c⟩, fun ⟨⟨a, b⟩, c⟩ => ⟨a, b, c⟩⟩
theorem upS_len (p : Int → Prop) : ∀ k, (upS p k).length ≤ k
  | 0 => by simp [upS]
  | k + 1 => by
    have := upS_len p k
    simp only [upS]
    split <;> simp <;> omega
theorem upS_congr {p q : Int → Prop} : ∀ {k : Nat}, k ≤ 64 → (∀ s, isS s → (p s ↔ q s)) → upS p k = upS q k := by
  intro k
  induction k with
  | zero => intro _ _; rfl
  | succ k ih =>
    intro hk h
    have e := h k (inS k (by omega))
    by_cases hp : p (k : Int)
    · rw [upS_pos hp, upS_pos (e.1 hp), ih (by omega) h]
    · rw [upS_neg hp, upS_neg (fun hq => hp (e.2 hq)), ih (by omega) h]
theorem upS_sorted {p : Int → Prop} : ∀ {k : Nat}, (upS p k).Pairwise (· < ·) := by
  intro k
  induction k with
  | zero => simp [upS]
  | succ k ih =>
    by_cases h : p (k : Int)
    · rw [upS_pos h, List.pairwise_append]
      refine ⟨ih, by simp, ?_⟩
      intro a ha b hb
      rw [mem_upS] at ha
      simp only [List.mem_singleton] at hb
      omega
    · rw [upS_neg h]; exact ih
/-- The sets with a property by size, those of less than z points. -/
noncomputable def ordS (p : Int → Prop) : Nat → List Int
  | 0 => []
  | z + 1 => ordS p z ++ upS (fun s => p s ∧ sz s = z) 64
theorem mem_ordS {p : Int → Prop} {s : Int} : ∀ {z : Nat}, s ∈ ordS p z ↔ isS s ∧ p s ∧ sz s < z := by
  intro z
  induction z with
  | zero => have := sz_nn s; simp only [ordS, List.not_mem_nil, false_iff]; omega
  | succ z ih =>
    rw [ordS, List.mem_append, ih, mem_upS64]
    constructor
    · rintro (⟨a, b, c⟩ | ⟨a, b, c⟩)
      · exact ⟨a, b, by omega⟩
      · exact ⟨a, b, by omega⟩
    · rintro ⟨a, b, c⟩
      by_cases e : sz s = (z : Int)
      · exact .inr ⟨a, b, e⟩
      · exact .inl ⟨a, b, by omega⟩
theorem sz_six {s : Int} (h : isS s) : sz s ≤ 6 := forS (p := fun s => sz s ≤ 6) (by decide +kernel) h
theorem ordS_len (p : Int → Prop) : ∀ z, (ordS p z).length ≤ 64 * z
  | 0 => by simp [ordS]
  | z + 1 => by
    have := ordS_len p z
    have := upS_len (fun s => p s ∧ sz s = z) 64
    simp only [ordS, List.length_append]
    omega
theorem allS_upS (p : Int → Prop) {k : Nat} (hk : k ≤ 64) : allS (upS p k) := fun x hx => by
  have := mem_upS.1 hx
  exact ⟨this.1, by omega⟩
theorem ordS_sorted {p : Int → Prop} : ∀ {z : Nat}, (ordS p z).Pairwise fun a b => before a b = true := by
  intro z
  induction z with
  | zero => simp [ordS]
  | succ z ih =>
    rw [ordS, List.pairwise_append]
    refine ⟨ih, ?_, ?_⟩
    · refine upS_sorted.imp_of_mem ?_
      intro a b ha hb hab
      have h1 := (mem_upS64.1 ha).2.2
      have h2 := (mem_upS64.1 hb).2.2
      simp only [before, decide_eq_true_eq]
      omega
    · intro a ha b hb
      have h1 := (mem_ordS.1 ha).2.2
      have h2 := (mem_upS64.1 hb).2.2
      simp only [before, decide_eq_true_eq]
      omega
/-- A sorted list is given by its members. -/
theorem sorted_ext {l m : List Int} (hl : l.Pairwise fun a b => before a b = true) (hm : m.Pairwise fun a b => before a b = true) (h : ∀ x, x ∈ l ↔ x ∈ m) : l = m := by
  have irr : ∀ a : Int, before a a = true → False := fun a h => by simp only [before, decide_eq_true_eq] at h; omega
  induction l generalizing m with
  | nil => cases m with
    | nil => rfl
    | cons b m => exact absurd ((h b).2 (by simp)) (by simp)
  | cons a l ih => cases m with
    | nil => exact absurd ((h a).1 (by simp)) (by simp)
    | cons b m =>
      rw [List.pairwise_cons] at hl hm
      have hab : a = b := by
        rcases List.mem_cons.1 ((h a).1 (by simp)) with e | e
        · exact e
        · rcases List.mem_cons.1 ((h b).2 (by simp)) with e2 | e2
          · exact e2.symm
          · exact (irr a (before_trans (hl.1 b e2) (hm.1 a e))).elim
      subst hab
      rw [ih hl.2 hm.2]
      intro x
      constructor
      · intro hx
        rcases List.mem_cons.1 ((h x).1 (by simp [hx])) with e | e
        · subst e; exact (irr _ (hl.1 _ hx)).elim
        · exact e
      · intro hx
        rcases List.mem_cons.1 ((h x).2 (by simp [hx])) with e | e
        · subst e; exact (irr _ (hm.1 _ hx)).elim
        · exact e
theorem sets_ex (p : Int → Prop) : ∃ l : List Int, (l.Pairwise fun a b => before a b = true) ∧ ∀ x, x ∈ l ↔ isS x ∧ p x :=
  ⟨ordS p 7, ordS_sorted, fun s => by
    rw [mem_ordS]
    constructor
    · rintro ⟨a, b, _⟩; exact ⟨a, b⟩
    · rintro ⟨a, b⟩; have := sz_six a; exact ⟨a, b, by omega⟩⟩
/-- All sets with a property, in order. -/
noncomputable def setsOf (p : Int → Prop) : List Int := Classical.choose (sets_ex p)
theorem setsOf_sorted (p : Int → Prop) : (setsOf p).Pairwise fun a b => before a b = true := (Classical.choose_spec (sets_ex p)).1
theorem mem_setsOf {p : Int → Prop} {s : Int} : s ∈ setsOf p ↔ isS s ∧ p s := (Classical.choose_spec (sets_ex p)).2 s
theorem setsOf_eq (p : Int → Prop) : ordS p 7 = setsOf p := sorted_ext ordS_sorted (setsOf_sorted p) fun s => by
  rw [mem_ordS, mem_setsOf]
  constructor
  · rintro ⟨a, b, _⟩; exact ⟨a, b⟩
  · rintro ⟨a, b⟩; have := sz_six a; exact ⟨a, b, by omega⟩
theorem setsOf_congr {p q : Int → Prop} (h : ∀ s, isS s → (p s ↔ q s)) : setsOf p = setsOf q := sorted_ext (setsOf_sorted p) (setsOf_sorted q) fun s => by
  rw [mem_setsOf, mem_setsOf]
  exact ⟨fun ⟨a, b⟩ => ⟨a, (h s a).1 b⟩, fun ⟨a, b⟩ => ⟨a, (h s a).2 b⟩⟩
theorem setsOf_none : setsOf (fun _ => False) = [] := by
  apply List.eq_nil_iff_forall_not_mem.2
  intro s hs
  exact (mem_setsOf.1 hs).2
theorem allS_setsOf (p : Int → Prop) : allS (setsOf p) := fun x hx => (mem_setsOf.1 hx).1
theorem setsOf_nodup (p : Int → Prop) : (setsOf p).Nodup := by
  refine (setsOf_sorted p).imp ?_
  intro a b h e
  subst e
  simp only [before, decide_eq_true_eq] at h
  omega
theorem setsOf_len (p : Int → Prop) : (setsOf p).length ≤ 64 := nodup_len (setsOf_nodup p) (allS_setsOf p)
theorem filter_setsOf (p : Int → Prop) (q : Int → Bool) : (setsOf p).filter q = setsOf fun s => p s ∧ q s = true :=
  sorted_ext ((setsOf_sorted p).filter q) (setsOf_sorted _) fun x => by simp only [List.mem_filter, mem_setsOf, and_assoc]
/-- A row of 64 marks. -/
noncomputable def bools (p : Int → Prop) : List V := (List.range 64).map fun (k : Nat) => V.bool (dec (p (k : Int)))
@[simp] theorem bools_len (p : Int → Prop) : (bools p).length = 64 := by simp [bools]
theorem bools_get {p : Int → Prop} {k : Nat} (hk : k < 64) (d : V) : (bools p)[k]?.getD d = .bool (dec (p (k : Int))) := by simp [bools, hk]
theorem bools_set {p : Int → Prop} {k : Nat} (hk : k < 64) : (bools p).set k (.bool true) = bools fun s => p s ∨ s = (k : Int) := by
  apply List.ext_getElem (by simp)
  intro j h1 h2
  simp only [bools_len] at h2
  rw [List.getElem_set]
  split
  · rename_i e
    subst e
    simp [bools, dec]
  · rename_i e
    have : ¬ ((j : Int) = k) := by omega
    simp [bools, dec, this]
theorem bools_congr {p q : Int → Prop} (h : ∀ s, isS s → (p s ↔ q s)) : bools p = bools q := by
  apply List.ext_getElem (by simp)
  intro j h1 h2
  simp only [bools_len] at h2
  simp [bools, dec, h j (inS j h2)]
theorem bools_none : List.replicate 64 (V.bool false) = bools fun _ => False := by
  show _ = (List.range 64).map fun _ => V.bool (dec False)
  rw [dec_false fun h => h, List.map_const', List.length_range]
@[simp] theorem bools_cell (p : Int → Prop) : (bools p).all V.cell = true := by simp [bools, V.cell]
@[simp] theorem bools_ren (r : Nat → Option Nat) (p : Int → Prop) : renL r (bools p) = some (bools p) := by
  unfold bools
  generalize List.range 64 = l
  induction l with
  | nil => rfl
  | cons a l ih => simp [renL, ren1, ih]
end Go.Proofs.YtkoljbncokmeaaaDoor
namespace Go.Proofs.YtkoljbncokmeaaaDoor
open Go Go.RowKit
set_option maxRecDepth 1000000
set_option linter.unusedSimpArgs false
set_option linter.unusedVariables false
set_option maxHeartbeats 1000000
/-- The sets of a family that is given as a word. -/
def bitP (f s : Int) : Prop := f.toNat.testBit s.toNat = true
theorem bitP_fam {p : Int → Prop} {s : Int} (hs : isS s) : bitP (fam p) s ↔ p s := by
  unfold bitP
  rw [fam_bit p hs]
  exact dec_iff
theorem fam_bitP {f : Int} (h1 : 0 ≤ f) (h2 : f < 18446744073709551616) : f = fam (bitP f) := by
  obtain ⟨m, rfl⟩ : ∃ m : Nat, f = m := ⟨f.toNat, by omega⟩
  refine fam_ext (by omega) fun k hk => ?_
  unfold bitP
  simp
theorem setsOf_nil {q : Int → Prop} : setsOf q = [] ↔ ∀ s, isS s → ¬ q s := by
  constructor
  · intro h s hs hq
    have := mem_setsOf.2 ⟨hs, hq⟩
    rw [h] at this
    simp at this
  · intro h
    rw [← setsOf_none]
    exact setsOf_congr fun s hs => ⟨fun hq => h s hs hq, False.elim⟩
theorem filt_pos {l : List Int} {k : Nat} (h : k < l.length) {q : Int → Bool} (hq : q (at0 l k) = true) : (l.take (k + 1)).filter q = (l.take k).filter q ++ [at0 l k] := by
  rw [take_at h, List.filter_append]
  simp [hq]
theorem filt_neg {l : List Int} {k : Nat} (h : k < l.length) {q : Int → Bool} (hq : q (at0 l k) = false) : (l.take (k + 1)).filter q = (l.take k).filter q := by
  rw [take_at h, List.filter_append]
  simp [hq]
theorem filt_len (l : List Int) (k : Nat) (q : Int → Bool) : ((l.take k).filter q).length ≤ l.length := by
  have h1 := List.length_filter_le q (l.take k)
  have h2 : (l.take k).length ≤ l.length := by simp; omega
  omega
theorem filt_setsOf (p : Int → Prop) (q : Int → Prop) : (setsOf p).filter (fun s => dec (q s)) = setsOf fun s => p s ∧ q s := by
  rw [filter_setsOf]
  exact setsOf_congr fun s _ => by rw [dec_iff]
end Go.Proofs.YtkoljbncokmeaaaDoor
namespace Go.Proofs.YtkoljbncokmeaaaDoor
open Go Go.RowKit
set_option maxRecDepth 1000000
set_option linter.unusedSimpArgs false
set_option linter.unusedVariables false
set_option maxHeartbeats 1000000
theorem before_at {l : List Int} (h : l.Pairwise fun a b => before a b = true) {i j : Nat} (hij : i < j) (hj : j < l.length) : before (at0 l i) (at0 l j) = true := by
  have := List.pairwise_iff_getElem.1 h i j (by omega) hj hij
  rwa [← at0_eq, ← at0_eq] at this
theorem sub_eq_bnot {s f : Int} (hs : isS s) (hf : isS f) (h : subS s f) : f - s = bnot f s := by
  obtain ⟨x, hx, rfl⟩ := isS_nat hs
  obtain ⟨y, hy, rfl⟩ := isS_nat hf
  rw [subS_nat x y hx hy] at h
  have h2 : y &&& x = x := by rw [Nat.and_comm]; exact h
  rw [bnot_nat y x hy hx, h2]
  have : x ≤ y := by rw [← h]; exact Nat.and_le_right
  omega
end Go.Proofs.YtkoljbncokmeaaaDoor
