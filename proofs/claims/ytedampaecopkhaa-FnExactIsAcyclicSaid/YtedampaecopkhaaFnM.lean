import Derived.Test.YtedampaecopkhaaFnL
namespace Go.Proofs.Ytedampaecopkhaa
open Go Go.RowKit
set_option maxRecDepth 1000000
set_option linter.unusedSimpArgs false
set_option linter.unusedVariables false
set_option maxHeartbeats 1000000
def sc_i_hasSet : SC := (.seq (.reg [⟨(some 4), none, (.mov (.c (.bool false)))⟩]) (.seq (.reg [⟨(some 5), none, (.mov (.t 0))⟩, ⟨(some 6), none, (.mov (.t 1))⟩, ⟨(some 7), none, (.conv .u64 (.t 6))⟩, ⟨(some 8), none, (.bin false .shr (.t 5) (.t 7))⟩, ⟨(some 9), none, (.bin false .and (.t 8) (.c (.int .u64 1)))⟩, ⟨(some 10), none, (.bin false .eql (.t 9) (.c (.int .u64 1)))⟩, ⟨(some 4), none, (.mov (.t 10))⟩]) .ret))
theorem code_i_hasSet : fnCode Try.prog [] 78 = some (11, sc_i_hasSet, [(4, none)]) := by kernel_rfl
def dU : V → Option Int
  | .int .u64 n => some n
  | _ => none
@[simp] theorem dU_int (n : Int) : dU (.int .u64 n) = some n := rfl
theorem dU_inv {v : V} {n : Int} (h : dU v = some n) : v = .int .u64 n := by
  unfold dU at h
  split at h
  · injection h with h; rw [h]
  · simp at h
noncomputable def hasG (f s : Int) : Option V := @ite _ (0 ≤ f ∧ f < 18446744073709551616 ∧ 0 ≤ s ∧ s < 64) (Classical.propDecidable _) (some (.bool (f.toNat.testBit s.toNat))) none
noncomputable def F_i_hasSet : List V → Option V := F2 dU dI hasG
theorem fn_i_hasSet : FnOk Try.prog 78 F_i_hasSet := by
  refine fn_ok code_i_hasSet mixed envNil_ok ?_
  intro args r h hb
  obtain ⟨_, _, f, s, rfl, h1, h2, h4⟩ := F2_inv h
  cases dU_inv h1
  cases dI_inv h2
  clear h
  simp only [hasG, Option.ite_none_right_eq_some, Option.some.injEq] at h4
  obtain ⟨⟨h1, h2, h3, h5⟩, rfl⟩ := h4
  refine ⟨by simp, fun w0 U0 L0 N0 => ?_⟩
  obtain ⟨m, rfl⟩ : ∃ m : Nat, f = m := ⟨f.toNat, by omega⟩
  obtain ⟨k, rfl⟩ : ∃ k : Nat, s = k := ⟨s.toNat, by omega⟩
  have hu : IntKind.u64.wrap (k : Int) = k := wrapU _ (by omega) (by omega)
  have hm : min k IntKind.u64.bits = k := by simp only [IntKind.bits]; omega
  have hd : (m : Int).fdiv (2 ^ k) = ((m / 2 ^ k : Nat) : Int) := by
    rw [Int.fdiv_eq_ediv_of_nonneg _ (by have := Int.natCast_nonneg (2 ^ k); simpa using this)]
    simp
  have hb : bitop .and .u64 (((m / 2 ^ k : Nat) : Int)) 1 = ((m / 2 ^ k % 2 : Nat) : Int) := by
    have hle : m / 2 ^ k ≤ m := Nat.div_le_self ..
    rw [show (1 : Int) = ((1 : Nat) : Int) from rfl, bitsU_and _ 1 (by omega) (by omega), Nat.and_one_is_mod]
  have ht : (((m / 2 ^ k % 2 : Nat) : Int) == 1) = m.testBit k := by
    rw [Nat.testBit_eq_decide_div_mod_eq]
    generalize m / 2 ^ k % 2 = x
    rw [Bool.eq_iff_iff, beq_iff_eq, decide_eq_true_iff]
    omega
  simp -implicitDefEqProofs [sc_i_hasSet, hu, hm, hd]
  have hq : (m : Int) / 2 ^ k = ((m / 2 ^ k : Nat) : Int) := by simp
  rw [hq, hb]
  exact ht
end Go.Proofs.Ytedampaecopkhaa
