import Derived.Test.YtedampaecopkhaaFnN
namespace Go.Proofs.Ytedampaecopkhaa
open Go Go.RowKit
set_option maxRecDepth 1000000
set_option linter.unusedSimpArgs false
set_option linter.unusedVariables false
set_option maxHeartbeats 1000000
/-- Families of sets as words of 64 bits. -/
theorem inS (k : Nat) (h : k < 64) : isS (k : Int) := by unfold isS; omega
theorem isS_nat {s : Int} (h : isS s) : ∃ k : Nat, k < 64 ∧ s = k := ⟨s.toNat, by unfold isS at h; omega, by unfold isS at h; omega⟩
open Classical in
noncomputable def famN (p : Int → Prop) : Nat → Nat
  | 0 => 0
  | k + 1 => if p (k : Int) then 2 ^ k + famN p k else famN p k
theorem famN_lt (p : Int → Prop) : ∀ k, famN p k < 2 ^ k
  | 0 => by simp [famN]
  | k + 1 => by
    have := famN_lt p k
    have h2 : 2 ^ (k + 1) = 2 ^ k + 2 ^ k := by rw [Nat.pow_succ]; omega
    simp only [famN]
    split <;> omega
theorem famN_bit (p : Int → Prop) : ∀ k j, (famN p k).testBit j = true ↔ (j < k ∧ p (j : Int))
  | 0, j => by simp [famN]
  | k + 1, j => by
    have ih := famN_bit p k j
    have hl := famN_lt p k
    simp only [famN]
    split
    · rename_i hp
      rcases Nat.lt_trichotomy j k with h | h | h
      · rw [Nat.testBit_two_pow_add_gt h, ih]
        constructor
        · rintro ⟨_, b⟩; exact ⟨by omega, b⟩
        · rintro ⟨_, b⟩; exact ⟨h, b⟩
      · subst h
        rw [Nat.testBit_two_pow_add_eq, Nat.testBit_lt_two_pow hl]
        simp [hp]
      · have h3 : 2 ^ k + famN p k < 2 ^ j := by
          have : 2 ^ (k + 1) ≤ 2 ^ j := Nat.pow_le_pow_right (by omega) h
          rw [Nat.pow_succ] at this
          omega
        rw [Nat.testBit_lt_two_pow h3]
        constructor
        · intro h; simp at h
        · rintro ⟨h4, _⟩; omega
    · rename_i hp
      rw [ih]
      constructor
      · rintro ⟨a, b⟩; exact ⟨by omega, b⟩
      · rintro ⟨a, b⟩
        rcases Nat.lt_succ_iff_lt_or_eq.1 a with h | rfl
        · exact ⟨h, b⟩
        · exact absurd b hp
theorem fam_ex (p : Int → Prop) : ∃ m : Nat, m < 18446744073709551616 ∧ ∀ k : Nat, m.testBit k = true ↔ (k < 64 ∧ p (k : Int)) := ⟨famN p 64, famN_lt p 64, famN_bit p 64⟩
/-- The number of a family; by choice, so that no checker unfolds it. -/
noncomputable def famW (p : Int → Prop) : Nat := Classical.choose (fam_ex p)
theorem famW_lt (p : Int → Prop) : famW p < 18446744073709551616 := (Classical.choose_spec (fam_ex p)).1
theorem famW_bit (p : Int → Prop) (k : Nat) : (famW p).testBit k = true ↔ (k < 64 ∧ p (k : Int)) := (Classical.choose_spec (fam_ex p)).2 k
theorem fam_exI (p : Int → Prop) : ∃ m : Int, m = (famW p : Nat) := ⟨_, rfl⟩
/-- By choice once more: a checker that sees a number without sign begins to count. -/
noncomputable def fam (p : Int → Prop) : Int := Classical.choose (fam_exI p)
theorem fam_eq (p : Int → Prop) : fam p = (famW p : Nat) := Classical.choose_spec (fam_exI p)
theorem fam_nn (p : Int → Prop) : 0 ≤ fam p := by rw [fam_eq]; omega
theorem fam_lt (p : Int → Prop) : fam p < 18446744073709551616 := by
  have := famW_lt p
  rw [fam_eq]
  omega
theorem fam_bit (p : Int → Prop) {s : Int} (hs : isS s) : (fam p).toNat.testBit s.toNat = dec (p s) := by
  obtain ⟨k, hk, rfl⟩ := isS_nat hs
  rw [Bool.eq_iff_iff, dec_iff]
  rw [fam_eq, Int.toNat_natCast, Int.toNat_natCast]
  rw [famW_bit]
  exact ⟨fun h => h.2, fun h => ⟨hk, h⟩⟩
theorem fam_ext {m : Nat} (hm : m < 18446744073709551616) {p : Int → Prop} (h : ∀ k : Nat, k < 64 → (m.testBit k = true ↔ p (k : Int))) : (m : Int) = fam p := by
  rw [fam_eq]
  congr 1
  apply Nat.eq_of_testBit_eq
  intro k
  rw [Bool.eq_iff_iff, famW_bit]
  by_cases hk : k < 64
  · rw [h k hk]
    exact ⟨fun a => ⟨hk, a⟩, fun a => a.2⟩
  · have h2 : m < 2 ^ k := Nat.lt_of_lt_of_le (show m < 2 ^ 64 from hm) (Nat.pow_le_pow_right (by omega) (by omega))
    rw [Nat.testBit_lt_two_pow h2]
    constructor
    · intro h; simp at h
    · rintro ⟨h4, _⟩; omega
theorem fam_congr {p q : Int → Prop} (h : ∀ s, isS s → (p s ↔ q s)) : fam p = fam q :=
  (fam_eq p).trans <| fam_ext (famW_lt p) fun k hk => by rw [famW_bit, ← h _ (inS k hk)]; exact ⟨fun a => a.2, fun a => ⟨hk, a⟩⟩
theorem fam_inj {p q : Int → Prop} : fam p = fam q ↔ ∀ s, isS s → (p s ↔ q s) := by
  refine ⟨fun h s hs => ?_, fam_congr⟩
  have h1 := fam_bit p hs
  rw [h, fam_bit q hs] at h1
  exact ⟨fun h => dec_iff.1 (h1 ▸ dec_true h), fun h => dec_iff.1 (h1 ▸ dec_true h)⟩
theorem fam_none : fam (fun _ => False) = 0 := (fam_ext (m := 0) (by omega) fun k _ => by simp).symm
theorem fam_zero {p : Int → Prop} : fam p = 0 ↔ ∀ s, isS s → ¬ p s := by
  rw [← fam_none, fam_inj]
  exact ⟨fun h s hs hp => (h s hs).1 hp, fun h s hs => ⟨h s hs, False.elim⟩⟩
@[simp] theorem fam_or (p q : Int → Prop) : bitop .or .u64 (fam p) (fam q) = fam fun s => p s ∨ q s := by
  rw [fam_eq, fam_eq, bitsU_or _ _ (famW_lt p) (famW_lt q)]
  refine fam_ext (Nat.or_lt_two_pow (n := 64) (famW_lt p) (famW_lt q)) fun k hk => ?_
  rw [Nat.testBit_or, Bool.or_eq_true, famW_bit, famW_bit]
  simp [hk]
@[simp] theorem fam_and (p q : Int → Prop) : bitop .and .u64 (fam p) (fam q) = fam fun s => p s ∧ q s := by
  rw [fam_eq, fam_eq, bitsU_and _ _ (famW_lt p) (famW_lt q)]
  refine fam_ext (Nat.lt_of_le_of_lt Nat.and_le_left (famW_lt p)) fun k hk => ?_
  rw [Nat.testBit_and, Bool.and_eq_true, famW_bit, famW_bit]
  simp [hk]
theorem bitsU_not (a b : Nat) (ha : a < 18446744073709551616) (hb : b < 18446744073709551616) : bitop .andNot .u64 (a : Int) (b : Int) = ((a &&& (2 ^ 64 - 1 - b) : Nat) : Int) := by
  have e : bitop .andNot .u64 (a : Int) (b : Int) = IntKind.u64.wrap ((BitVec.ofInt 64 (a : Int) &&& ~~~ BitVec.ofInt 64 (b : Int)).toNat) := rfl
  have h1 : a &&& (2 ^ 64 - 1 - b) ≤ a := Nat.and_le_left
  rw [e, BitVec.ofInt_natCast, BitVec.ofInt_natCast, BitVec.toNat_and, BitVec.toNat_not, BitVec.toNat_ofNat, BitVec.toNat_ofNat]
  rw [Nat.mod_eq_of_lt (by omega), Nat.mod_eq_of_lt (by omega)]
  exact wrapU _ (by omega) (by omega)
@[simp] theorem fam_not (p q : Int → Prop) : bitop .andNot .u64 (fam p) (fam q) = fam fun s => p s ∧ ¬ q s := by
  rw [fam_eq, fam_eq, bitsU_not _ _ (famW_lt p) (famW_lt q)]
  refine fam_ext (Nat.lt_of_le_of_lt Nat.and_le_left (famW_lt p)) fun k hk => ?_
  have h := famW_lt q
  rw [Nat.testBit_and, Bool.and_eq_true, famW_bit, show 2 ^ 64 - 1 - famW q = 2 ^ 64 - (famW q + 1) by omega, Nat.testBit_two_pow_sub_succ h]
  have := famW_bit q k
  cases hb : (famW q).testBit k with
  | false =>
    rw [hb] at this
    simp [hk] at this ⊢
    simp [this]
  | true =>
    rw [hb] at this
    simp [hk] at this ⊢
    simp [this]
/-- One set as a family. -/
theorem fam_one {s : Int} (hs : isS s) : IntKind.u64.wrap (2 ^ min s.toNat IntKind.u64.bits) = fam fun t => t = s := by
  obtain ⟨k, hk, rfl⟩ := isS_nat hs
  have h1 : min (k : Int).toNat IntKind.u64.bits = k := by simp only [IntKind.bits]; omega
  have h2 : 2 ^ k < 18446744073709551616 := Nat.pow_lt_pow_right (by omega) hk
  rw [h1]
  have h3 : ((2 : Int) ^ k) = ((2 ^ k : Nat) : Int) := by simp
  rw [h3, wrapU _ (Int.natCast_nonneg _) (by omega)]
  refine fam_ext h2 fun j hj => ?_
  rw [Nat.testBit_two_pow]
  simp
  omega
theorem wrapS {s : Int} (hs : isS s) : IntKind.u64.wrap s = s := wrapU _ hs.1 (by have := hs.2; omega)
/-- Is a set part of another. -/
def subS (a b : Int) : Prop := bnot a b = 0
theorem hasG_fam {p : Int → Prop} {s : Int} (hs : isS s) : hasG (fam p) s = some (.bool (dec (p s))) := by
  have h1 := fam_nn p
  have h2 := fam_lt p
  have h3 := hs.1
  have h4 := hs.2
  simp only [hasG, h1, h2, h3, h4, and_self, if_true, fam_bit p hs]
end Go.Proofs.Ytedampaecopkhaa
