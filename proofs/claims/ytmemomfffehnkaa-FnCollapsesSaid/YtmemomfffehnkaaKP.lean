import Derived.Test.YtmemomfffehnkaaKE
import Derived.Test.YtmemomfffehnkaaKC
namespace Go.Proofs.Ytmemomfffehnkaa
open Go Go.RowKit
set_option maxRecDepth 1000000
set_option linter.unusedSimpArgs false
set_option linter.unusedVariables false
set_option maxHeartbeats 1000000
/-- Families of sets as words of 64 bits. -/
theorem inS (k : Nat) (h : k < 64) : isS (k : Int) := by unfold isS; omega
theorem isS_nat {s : Int} (h : isS s) : ∃ k : Nat, k < 64 ∧ s = k := ⟨s.toNat, by unfold isS at h; omega, by unfold isS at h; omega⟩
open Classical in
noncomputable def famN (p : Int → Prop) : Nat → Nat
  | 0 => 0
  | k + 1 => if p (k : Int) then 2 ^ k + famN p k else famN p k
theorem famN_lt (p : Int → Prop) : ∀ k, famN p k < 2 ^ k
  | 0 => by simp [famN]
  | k + 1 => by
    have := famN_lt p k
    have h2 : 2 ^ (k + 1) = 2 ^ k + 2 ^ k := by rw [Nat.pow_succ]; omega
    simp only [famN]
    split <;> omega
theorem famN_bit (p : Int → Prop) : ∀ k j, (famN p k).testBit j = true ↔ (j < k ∧ p (j : Int))
  | 0, j => by simp [famN]
  | k + 1, j => by
    have ih := famN_bit p k j
    have hl := famN_lt p k
    simp only [famN]
    split
    · rename_i hp
      rcases Nat.lt_trichotomy j k with h | h | h
      · rw [Nat.testBit_two_pow_add_gt h, ih]
        constructor
        · rintro ⟨_, b⟩; exact ⟨by omega, b⟩
        · rintro ⟨_, b⟩; exact ⟨h, b⟩
      · subst h
        rw [Nat.testBit_two_pow_add_eq, Nat.testBit_lt_two_pow hl]
        simp [hp]
      · have h3 : 2 ^ k + famN p k < 2 ^ j := by
          have : 2 ^ (k + 1) ≤ 2 ^ j := Nat.pow_le_pow_right (by omega) h
          rw [Nat.pow_succ] at this
          omega
        rw [Nat.testBit_lt_two_pow h3]
        constructor
        · intro h; simp at h
        · rintro ⟨h4, _⟩; omega
    · rename_i hp
      rw [ih]
      constructor
      · rintro ⟨a, b⟩; exact ⟨by omega, b⟩
      · rintro ⟨a, b⟩
        rcases Nat.lt_succ_iff_lt_or_eq.1 a with h | rfl
        · exact ⟨h, b⟩
        · exact absurd b hp
theorem fam_ex (p : Int → Prop) : ∃ m : Nat, m < 18446744073709551616 ∧ ∀ k : Nat, m.testBit k = true ↔ (k < 64 ∧ p (k : Int)) := ⟨famN p 64, famN_lt p 64, famN_bit p 64⟩
/-- The number of a family; by choice, so that no checker unfolds it. -/
noncomputable def famW (p : Int → Prop) : Nat := Classical.choose (fam_ex p)
theorem famW_lt (p : Int → Prop) : famW p < 18446744073709551616 := (Classical.choose_spec (fam_ex p)).1
theorem famW_bit (p : Int → Prop) (k : Nat) : (famW p).testBit k = true ↔ (k < 64 ∧ p (k : Int)) := (Classical.choose_spec (fam_ex p)).2 k
theorem fam_exI (p : Int → Prop) : ∃ m : Int, m = (famW p : Nat) := ⟨_, rfl⟩
/-- By choice once more: a checker that sees a number without sign begins to count. -/
noncomputable def fam (p : Int → Prop) : Int := Classical.choose (fam_exI p)
theorem fam_eq (p : Int → Prop) : fam p = (famW p : Nat) := Classical.choose_spec (fam_exI p)
theorem fam_nn (p : Int → Prop) : 0 ≤ fam p := by rw [fam_eq]; omega
theorem fam_lt (p : Int → Prop) : fam p < 18446744073709551616 := by
  have := famW_lt p
  rw [fam_eq]
  omega
theorem fam_bit (p : Int → Prop) {s : Int} (hs : isS s) : (fam p).toNat.testBit s.toNat = dec (p s) := by
  obtain ⟨k, hk, rfl⟩ := isS_nat hs
  rw [Bool.eq_iff_iff, dec_iff]
  rw [fam_eq, Int.toNat_natCast, Int.toNat_natCast]
  rw [famW_bit]
  exact ⟨fun h => h.2, fun h => ⟨hk, h⟩⟩
theorem fam_ext {m : Nat} (hm : m < 18446744073709551616) {p : Int → Prop} (h : ∀ k : Nat, k < 64 → (m.testBit k = true ↔ p (k : Int))) : (m : Int) = fam p := by
  rw [fam_eq]
  congr 1
  apply Nat.eq_of_testBit_eq
  intro k
  rw [Bool.eq_iff_iff, famW_bit]
  by_cases hk : k < 64
  · rw [h k hk]
    exact ⟨fun a => ⟨hk, a⟩, fun a => a.2⟩
  · have h2 : m < 2 ^ k := Nat.lt_of_lt_of_le (show m < 2 ^ 64 from hm) (Nat.pow_le_pow_right (by omega) (by omega))
    rw [Nat.testBit_lt_two_pow h2]
    constructor
    · intro h; simp at h
    · rintro ⟨h4, _⟩; omega
theorem fam_congr {p q : Int → Prop} (h : ∀ s, isS s → (p s ↔ q s)) : fam p = fam q :=
  (fam_eq p).trans <| fam_ext (famW_lt p) fun k hk => by rw [famW_bit, ← h _ (inS k hk)]; exact ⟨fun a => a.2, fun a => ⟨hk, a⟩⟩
theorem fam_inj {p q : Int → Prop} : fam p = fam q ↔ ∀ s, isS s → (p s ↔ q s) := by
  refine ⟨fun h s hs => ?_, fam_congr⟩
  have h1 := fam_bit p hs
  rw [h, fam_bit q hs] at h1
  exact ⟨fun h => dec_iff.1 (h1 ▸ dec_true h), fun h => dec_iff.1 (h1 ▸ dec_true h)⟩
theorem fam_none : fam (fun _ => False) = 0 := (fam_ext (m := 0) (by omega) fun k _ => by simp).symm
theorem fam_zero {p : Int → Prop} : fam p = 0 ↔ ∀ s, isS s → ¬ p s := by
  rw [← fam_none, fam_inj]
  exact ⟨fun h s hs hp => (h s hs).1 hp, fun h s hs => ⟨h s hs, False.elim⟩⟩
@[simp] theorem fam_or (p q : Int → Prop) : bitop .or .u64 (fam p) (fam q) = fam fun s => p s ∨ q s := by
  rw [fam_eq, fam_eq, bitsU_or _ _ (famW_lt p) (famW_lt q)]
  refine fam_ext (Nat.or_lt_two_pow (n := 64) (famW_lt p) (famW_lt q)) fun k hk => ?_
  rw [Nat.testBit_or, Bool.or_eq_true, famW_bit, famW_bit]
  simp [hk]
@[simp] theorem fam_and (p q : Int → Prop) : bitop .and .u64 (fam p) (fam q) = fam fun s => p s ∧ q s := by
  rw [fam_eq, fam_eq, bitsU_and _ _ (famW_lt p) (famW_lt q)]
  refine fam_ext (Nat.lt_of_le_of_lt Nat.and_le_left (famW_lt p)) fun k hk => ?_
  rw [Nat.testBit_and, Bool.and_eq_true, famW_bit, famW_bit]
  simp [hk]
theorem bitsU_not (a b : Nat) (ha : a < 18446744073709551616) (hb : b < 18446744073709551616) : bitop .andNot .u64 (a : Int) (b : Int) = ((a &&& (2 ^ 64 - 1 - b) : Nat) : Int) := by
  have e : bitop .andNot .u64 (a : Int) (b : Int) = IntKind.u64.wrap ((BitVec.ofInt 64 (a : Int) &&& ~~~ BitVec.ofInt 64 (b : Int)).toNat) := rfl
  have h1 : a &&& (2 ^ 64 - 1 - b) ≤ a := Nat.and_le_left
  rw [e, BitVec.ofInt_natCast, BitVec.ofInt_natCast, BitVec.toNat_and, BitVec.toNat_not, BitVec.toNat_ofNat, BitVec.toNat_ofNat]
  rw [Nat.mod_eq_of_lt (by omega), Nat.mod_eq_of_lt (by omega)]
  exact wrapU _ (by omega) (by omega)
@[simp] theorem fam_not (p q : Int → Prop) : bitop .andNot .u64 (fam p) (fam q) = fam fun s => p s ∧ ¬ q s := by
  rw [fam_eq, fam_eq, bitsU_not _ _ (famW_lt p) (famW_lt q)]
  refine fam_ext (Nat.lt_of_le_of_lt Nat.and_le_left (famW_lt p)) fun k hk => ?_
  have h := famW_lt q
  rw [Nat.testBit_and, Bool.and_eq_true, famW_bit, show 2 ^ 64 - 1 - famW q = 2 ^ 64 - (famW q + 1) by omega, Nat.testBit_two_pow_sub_succ h]
  have := famW_bit q k
  cases hb : (famW q).testBit k with
  | false =>
    rw [hb] at this
    simp [hk] at this ⊢
    simp [this]
  | true =>
    rw [hb] at this
    simp [hk] at this ⊢
    simp [this]
/-- One set as a family. -/
theorem fam_one {s : Int} (hs : isS s) : IntKind.u64.wrap (2 ^ min s.toNat IntKind.u64.bits) = fam fun t => t = s := by
  obtain ⟨k, hk, rfl⟩ := isS_nat hs
  have h1 : min (k : Int).toNat IntKind.u64.bits = k := by simp only [IntKind.bits]; omega
  have h2 : 2 ^ k < 18446744073709551616 := Nat.pow_lt_pow_right (by omega) hk
  rw [h1]
  have h3 : ((2 : Int) ^ k) = ((2 ^ k : Nat) : Int) := by simp
  rw [h3, wrapU _ (Int.natCast_nonneg _) (by omega)]
  refine fam_ext h2 fun j hj => ?_
  rw [Nat.testBit_two_pow]
  simp
  omega
theorem wrapS {s : Int} (hs : isS s) : IntKind.u64.wrap s = s := wrapU _ hs.1 (by have := hs.2; omega)
/-- Is a set part of another. -/
def subS (a b : Int) : Prop := bnot a b = 0
theorem hasG_fam {p : Int → Prop} {s : Int} (hs : isS s) : hasG (fam p) s = some (.bool (dec (p s))) := by
  have h1 := fam_nn p
  have h2 := fam_lt p
  have h3 := hs.1
  have h4 := hs.2
  simp only [hasG, h1, h2, h3, h4, and_self, if_true, fam_bit p hs]
end Go.Proofs.Ytmemomfffehnkaa
namespace Go.Proofs.Ytmemomfffehnkaa
open Go Go.RowKit
set_option maxRecDepth 1000000
set_option linter.unusedSimpArgs false
set_option linter.unusedVariables false
set_option maxHeartbeats 1000000
/-- Sets below 64 as numbers: facts by trial, over numbers that are not below zero. -/
theorem band_nat (a b : Nat) (ha : a < 64) (hb : b < 64) : band a b = ((a &&& b : Nat) : Int) := bits_and a b (by omega) (by omega)
theorem bor_nat (a b : Nat) (ha : a < 64) (hb : b < 64) : bor a b = ((a ||| b : Nat) : Int) := bits_or a b (by omega) (by omega)
theorem bits_not (a b : Nat) (ha : a < 9223372036854775808) (hb : b < 9223372036854775808) : bitop .andNot .i64 (a : Int) (b : Int) = ((a &&& (2 ^ 64 - 1 - b) : Nat) : Int) := by
  have e : bitop .andNot .i64 (a : Int) (b : Int) = IntKind.i64.wrap ((BitVec.ofInt 64 (a : Int) &&& ~~~ BitVec.ofInt 64 (b : Int)).toNat) := rfl
  have h1 : a &&& (2 ^ 64 - 1 - b) ≤ a := Nat.and_le_left
  rw [e, BitVec.ofInt_natCast, BitVec.ofInt_natCast, BitVec.toNat_and, BitVec.toNat_not, BitVec.toNat_ofNat, BitVec.toNat_ofNat]
  rw [Nat.mod_eq_of_lt (by omega), Nat.mod_eq_of_lt (by omega)]
  exact wrapI _ (by omega) (by omega)
theorem bnot_nat (a b : Nat) (ha : a < 64) (hb : b < 64) : bnot a b = ((a - (a &&& b) : Nat) : Int) := by
  have key : ∀ a : Nat, a < 64 → ∀ b : Nat, b < 64 → a &&& (2 ^ 64 - 1 - b) = a - (a &&& b) := by decide +kernel
  rw [show bnot a b = _ from bits_not a b (by omega) (by omega), key a ha b hb]
theorem subS_nat (a b : Nat) (ha : a < 64) (hb : b < 64) : subS a b ↔ a &&& b = a := by
  unfold subS
  rw [bnot_nat a b ha hb]
  have : a &&& b ≤ a := Nat.and_le_left
  omega
theorem subS_iff {a b : Int} (ha : isS a) (hb : isS b) : subS a b ↔ band a b = a := by
  obtain ⟨x, hx, rfl⟩ := isS_nat ha
  obtain ⟨y, hy, rfl⟩ := isS_nat hb
  rw [subS_nat x y hx hy, band_nat x y hx hy]
  omega
theorem subS_iff' {a b : Int} (ha : isS a) (hb : isS b) : subS a b ↔ band b a = a := by
  obtain ⟨x, hx, rfl⟩ := isS_nat ha
  obtain ⟨y, hy, rfl⟩ := isS_nat hb
  rw [subS_nat x y hx hy, band_nat y x hy hx, Nat.and_comm]
  omega
theorem subS_bits {a b : Int} (ha : isS a) (hb : isS b) : subS a b ↔ ∀ i : Nat, a.toNat.testBit i = true → b.toNat.testBit i = true := by
  obtain ⟨x, hx, rfl⟩ := isS_nat ha
  obtain ⟨y, hy, rfl⟩ := isS_nat hb
  rw [subS_nat x y hx hy]
  simp only [Int.toNat_natCast]
  constructor
  · intro h i hi
    rw [← h, Nat.testBit_and, Bool.and_eq_true] at hi
    exact hi.2
  · intro h
    apply Nat.eq_of_testBit_eq
    intro i
    rw [Nat.testBit_and]
    cases hi : x.testBit i with
    | false => rfl
    | true => simp [h i hi]
theorem subS_refl {a : Int} (ha : isS a) : subS a a := (subS_bits ha ha).2 fun _ h => h
theorem subS_trans {a b c : Int} (ha : isS a) (hb : isS b) (hc : isS c) (h1 : subS a b) (h2 : subS b c) : subS a c :=
  (subS_bits ha hc).2 fun i h => (subS_bits hb hc).1 h2 i ((subS_bits ha hb).1 h1 i h)
theorem subS_le {a b : Int} (ha : isS a) (hb : isS b) (h : subS a b) : a ≤ b := by
  obtain ⟨x, hx, rfl⟩ := isS_nat ha
  obtain ⟨y, hy, rfl⟩ := isS_nat hb
  rw [subS_nat x y hx hy] at h
  have : x &&& y ≤ y := Nat.and_le_right
  omega
theorem subS_anti {a b : Int} (ha : isS a) (hb : isS b) (h : subS a b) (h2 : subS b a) : a = b := by
  have := subS_le ha hb h
  have := subS_le hb ha h2
  omega
theorem isS_zero : isS 0 := by unfold isS; omega
theorem subS_zero {a : Int} (ha : isS a) : subS 0 a := by
  obtain ⟨x, hx, rfl⟩ := isS_nat ha
  exact (subS_nat 0 x (by omega) hx).2 (by simp)
theorem subS_of_zero {a : Int} (ha : isS a) (h : subS a 0) : a = 0 := by
  obtain ⟨x, hx, rfl⟩ := isS_nat ha
  rw [show (0 : Int) = ((0 : Nat) : Int) from rfl, subS_nat x 0 hx (by omega)] at h
  simp at h
  omega
/-- The next part of s below t. -/
theorem sub_next {s t : Int} (hs : isS s) (ht : isS t) (hts : subS t s) (h0 : t ≠ 0) : isS (band (t - 1) s) ∧ subS (band (t - 1) s) s ∧ band (t - 1) s < t ∧ ∀ u, isS u → subS u s → u < t → u ≤ band (t - 1) s := by
  obtain ⟨x, hx, rfl⟩ := isS_nat hs
  obtain ⟨y, hy, rfl⟩ := isS_nat ht
  have hy0 : 0 < y := by omega
  rw [subS_nat y x hy hx] at hts
  have e : ((y : Int) - 1) = ((y - 1 : Nat) : Int) := by omega
  have hl : (y - 1) &&& x ≤ y - 1 := Nat.and_le_left
  rw [e, band_nat (y - 1) x (by omega) hx]
  refine ⟨inS _ (by omega), (subS_nat _ _ (by omega) hx).2 (by rw [Nat.and_assoc, Nat.and_self]), by omega, ?_⟩
  intro u hu hus hut
  obtain ⟨z, hz, rfl⟩ := isS_nat hu
  rw [subS_nat z x hz hx] at hus
  have key : ∀ x : Nat, x < 64 → ∀ y : Nat, y < 64 → (y &&& x != y || (List.range 64).all fun z => z &&& x != z || decide (y ≤ z) || decide (z ≤ (y - 1) &&& x)) = true := by decide +kernel
  have := key x hx y hy
  rw [Bool.or_eq_true, List.all_eq_true] at this
  rcases this with h | h
  · simp [hts] at h
  · have h := h z (List.mem_range.2 hz)
    simp only [hus, bne_self_eq_false, Bool.false_or, Bool.or_eq_true, decide_eq_true_eq] at h
    omega

/-- Faces. -/
def faceS (l : List Int) (s : Int) : Prop := ∃ f ∈ l, subS s f
theorem faceS_snoc {l : List Int} {f s : Int} : faceS (l ++ [f]) s ↔ faceS l s ∨ subS s f := by
  unfold faceS
  constructor
  · rintro ⟨g, h1, h2⟩
    rcases List.mem_append.1 h1 with h | h
    · exact .inl ⟨g, h, h2⟩
    · exact .inr (by simpa using (List.mem_singleton.1 h) ▸ h2)
  · rintro (⟨g, h1, h2⟩ | h)
    · exact ⟨g, by simp [h1], h2⟩
    · exact ⟨f, by simp, h⟩
theorem faceS_sub {l : List Int} (hl : allS l) {s t : Int} (hs : isS s) (ht : isS t) (h : subS s t) (hf : faceS l t) : faceS l s := by
  obtain ⟨f, h1, h2⟩ := hf
  exact ⟨f, h1, subS_trans hs ht (hl f h1) h h2⟩

open Classical in
/-- The sets below k with a property, from the least to the greatest number. -/
noncomputable def upS (p : Int → Prop) : Nat → List Int
  | 0 => []
  | k + 1 => if p (k : Int) then upS p k ++ [(k : Int)] else upS p k
theorem upS_pos {p : Int → Prop} {k : Nat} (h : p (k : Int)) : upS p (k + 1) = upS p k ++ [(k : Int)] := by simp only [upS, if_pos h]
theorem upS_neg {p : Int → Prop} {k : Nat} (h : ¬ p (k : Int)) : upS p (k + 1) = upS p k := by simp only [upS, if_neg h]
theorem mem_upS {p : Int → Prop} {s : Int} : ∀ {k : Nat}, s ∈ upS p k ↔ 0 ≤ s ∧ s < k ∧ p s := by
  intro k
  induction k with
  | zero => simp only [upS, List.not_mem_nil, false_iff]; omega
  | succ k ih =>
    by_cases h : p (k : Int)
    · rw [upS_pos h, List.mem_append, ih, List.mem_singleton]
      constructor
      · rintro (⟨a, b, c⟩ | rfl)
        · exact ⟨a, by omega, c⟩
        · exact ⟨by omega, by omega, h⟩
      · rintro ⟨a, b, c⟩
        by_cases e : s = (k : Int)
        · exact .inr e
        · exact .inl ⟨a, by omega, c⟩
    · rw [upS_neg h, ih]
      constructor
      · rintro ⟨a, b, c⟩; exact ⟨a, by omega, c⟩
      · rintro ⟨a, b, c⟩
        refine ⟨a, ?_, c⟩
        by_cases e : s = (k : Int)
        · exact absurd (e ▸ c) h
        · omega
theorem mem_upS64 {p : Int → Prop} {s : Int} : s ∈ upS p 64 ↔ isS s ∧ p s := by
  rw [mem_upS]
  unfold isS
  exact ⟨fun ⟨a, b, c⟩ => ⟨⟨a, b⟩, c⟩, fun ⟨⟨a, b⟩, c⟩ => ⟨a, b, c⟩⟩
theorem upS_len (p : Int → Prop) : ∀ k, (upS p k).length ≤ k
  | 0 => by simp [upS]
  | k + 1 => by
    have := upS_len p k
    simp only [upS]
    split <;> simp <;> omega
theorem upS_congr {p q : Int → Prop} : ∀ {k : Nat}, k ≤ 64 → (∀ s, isS s → (p s ↔ q s)) → upS p k = upS q k := by
  intro k
  induction k with
  | zero => intro _ _; rfl
  | succ k ih =>
    intro hk h
    have e := h k (inS k (by omega))
    by_cases hp : p (k : Int)
    · rw [upS_pos hp, upS_pos (e.1 hp), ih (by omega) h]
    · rw [upS_neg hp, upS_neg (fun hq => hp (e.2 hq)), ih (by omega) h]
theorem upS_none : ∀ {k : Nat}, upS (fun _ => False) k = [] := by
  intro k
  induction k with
  | zero => rfl
  | succ k ih => rw [upS_neg (by simp), ih]
theorem upS_sorted {p : Int → Prop} : ∀ {k : Nat}, (upS p k).Pairwise (· < ·) := by
  intro k
  induction k with
  | zero => simp [upS]
  | succ k ih =>
    by_cases h : p (k : Int)
    · rw [upS_pos h, List.pairwise_append]
      refine ⟨ih, by simp, ?_⟩
      intro a ha b hb
      rw [mem_upS] at ha
      simp only [List.mem_singleton] at hb
      omega
    · rw [upS_neg h]; exact ih
/-- The sets with a property by size, those of less than z points. -/
noncomputable def ordS (p : Int → Prop) : Nat → List Int
  | 0 => []
  | z + 1 => ordS p z ++ upS (fun s => p s ∧ sz s = z) 64
theorem mem_ordS {p : Int → Prop} {s : Int} : ∀ {z : Nat}, s ∈ ordS p z ↔ isS s ∧ p s ∧ sz s < z := by
  intro z
  induction z with
  | zero => have := sz_nn s; simp only [ordS, List.not_mem_nil, false_iff]; omega
  | succ z ih =>
    rw [ordS, List.mem_append, ih, mem_upS64]
    constructor
    · rintro (⟨a, b, c⟩ | ⟨a, b, c⟩)
      · exact ⟨a, b, by omega⟩
      · exact ⟨a, b, by omega⟩
    · rintro ⟨a, b, c⟩
      by_cases e : sz s = (z : Int)
      · exact .inr ⟨a, b, e⟩
      · exact .inl ⟨a, b, by omega⟩
theorem sz_six {s : Int} (h : isS s) : sz s ≤ 6 := forS (p := fun s => sz s ≤ 6) (by decide +kernel) h
theorem ordS_len (p : Int → Prop) : ∀ z, (ordS p z).length ≤ 64 * z
  | 0 => by simp [ordS]
  | z + 1 => by
    have := ordS_len p z
    have := upS_len (fun s => p s ∧ sz s = z) 64
    simp only [ordS, List.length_append]
    omega
theorem ordS_congr {p q : Int → Prop} (h : ∀ s, isS s → (p s ↔ q s)) : ∀ z, ordS p z = ordS q z
  | 0 => rfl
  | z + 1 => by
    rw [ordS, ordS, ordS_congr h z]
    congr 1
    exact upS_congr (Nat.le_refl _) fun s hs => by rw [h s hs]
theorem allS_upS (p : Int → Prop) {k : Nat} (hk : k ≤ 64) : allS (upS p k) := fun x hx => by
  have := mem_upS.1 hx
  exact ⟨this.1, by omega⟩
theorem ordS_sorted {p : Int → Prop} : ∀ {z : Nat}, (ordS p z).Pairwise fun a b => before a b = true := by
  intro z
  induction z with
  | zero => simp [ordS]
  | succ z ih =>
    rw [ordS, List.pairwise_append]
    refine ⟨ih, ?_, ?_⟩
    · refine upS_sorted.imp_of_mem ?_
      intro a b ha hb hab
      have h1 := (mem_upS64.1 ha).2.2
      have h2 := (mem_upS64.1 hb).2.2
      simp only [before, decide_eq_true_eq]
      omega
    · intro a ha b hb
      have h1 := (mem_ordS.1 ha).2.2
      have h2 := (mem_upS64.1 hb).2.2
      simp only [before, decide_eq_true_eq]
      omega
/-- A sorted list is given by its members. -/
theorem sorted_ext {l m : List Int} (hl : l.Pairwise fun a b => before a b = true) (hm : m.Pairwise fun a b => before a b = true) (h : ∀ x, x ∈ l ↔ x ∈ m) : l = m := by
  have irr : ∀ a : Int, before a a = true → False := fun a h => by simp only [before, decide_eq_true_eq] at h; omega
  induction l generalizing m with
  | nil => cases m with
    | nil => rfl
    | cons b m => exact absurd ((h b).2 (by simp)) (by simp)
  | cons a l ih => cases m with
    | nil => exact absurd ((h a).1 (by simp)) (by simp)
    | cons b m =>
      rw [List.pairwise_cons] at hl hm
      have hab : a = b := by
        rcases List.mem_cons.1 ((h a).1 (by simp)) with e | e
        · exact e
        · rcases List.mem_cons.1 ((h b).2 (by simp)) with e2 | e2
          · exact e2.symm
          · exact (irr a (before_trans (hl.1 b e2) (hm.1 a e))).elim
      subst hab
      rw [ih hl.2 hm.2]
      intro x
      constructor
      · intro hx
        rcases List.mem_cons.1 ((h x).1 (by simp [hx])) with e | e
        · subst e; exact (irr _ (hl.1 _ hx)).elim
        · exact e
      · intro hx
        rcases List.mem_cons.1 ((h x).2 (by simp [hx])) with e | e
        · subst e; exact (irr _ (hm.1 _ hx)).elim
        · exact e
theorem sets_ex (p : Int → Prop) : ∃ l : List Int, (l.Pairwise fun a b => before a b = true) ∧ ∀ x, x ∈ l ↔ isS x ∧ p x :=
  ⟨ordS p 7, ordS_sorted, fun s => by
    rw [mem_ordS]
    constructor
    · rintro ⟨a, b, _⟩; exact ⟨a, b⟩
    · rintro ⟨a, b⟩; have := sz_six a; exact ⟨a, b, by omega⟩⟩
/-- All sets with a property, in order. -/
noncomputable def setsOf (p : Int → Prop) : List Int := Classical.choose (sets_ex p)
theorem setsOf_sorted (p : Int → Prop) : (setsOf p).Pairwise fun a b => before a b = true := (Classical.choose_spec (sets_ex p)).1
theorem mem_setsOf {p : Int → Prop} {s : Int} : s ∈ setsOf p ↔ isS s ∧ p s := (Classical.choose_spec (sets_ex p)).2 s
theorem setsOf_eq (p : Int → Prop) : ordS p 7 = setsOf p := sorted_ext ordS_sorted (setsOf_sorted p) fun s => by
  rw [mem_ordS, mem_setsOf]
  constructor
  · rintro ⟨a, b, _⟩; exact ⟨a, b⟩
  · rintro ⟨a, b⟩; have := sz_six a; exact ⟨a, b, by omega⟩
theorem setsOf_congr {p q : Int → Prop} (h : ∀ s, isS s → (p s ↔ q s)) : setsOf p = setsOf q := sorted_ext (setsOf_sorted p) (setsOf_sorted q) fun s => by
  rw [mem_setsOf, mem_setsOf]
  exact ⟨fun ⟨a, b⟩ => ⟨a, (h s a).1 b⟩, fun ⟨a, b⟩ => ⟨a, (h s a).2 b⟩⟩
theorem setsOf_none : setsOf (fun _ => False) = [] := by
  apply List.eq_nil_iff_forall_not_mem.2
  intro s hs
  exact (mem_setsOf.1 hs).2
theorem allS_setsOf (p : Int → Prop) : allS (setsOf p) := fun x hx => (mem_setsOf.1 hx).1
theorem setsOf_nodup (p : Int → Prop) : (setsOf p).Nodup := by
  refine (setsOf_sorted p).imp ?_
  intro a b h e
  subst e
  simp only [before, decide_eq_true_eq] at h
  omega
theorem setsOf_len (p : Int → Prop) : (setsOf p).length ≤ 64 := nodup_len (setsOf_nodup p) (allS_setsOf p)
theorem filter_setsOf (p : Int → Prop) (q : Int → Bool) : (setsOf p).filter q = setsOf fun s => p s ∧ q s = true :=
  sorted_ext ((setsOf_sorted p).filter q) (setsOf_sorted _) fun x => by simp only [List.mem_filter, mem_setsOf, and_assoc]

/-- A row of 64 marks. -/
noncomputable def bools (p : Int → Prop) : List V := (List.range 64).map fun (k : Nat) => V.bool (dec (p (k : Int)))
@[simp] theorem bools_len (p : Int → Prop) : (bools p).length = 64 := by simp [bools]
theorem bools_get {p : Int → Prop} {k : Nat} (hk : k < 64) (d : V) : (bools p)[k]?.getD d = .bool (dec (p (k : Int))) := by simp [bools, hk]
theorem bools_set {p : Int → Prop} {k : Nat} (hk : k < 64) : (bools p).set k (.bool true) = bools fun s => p s ∨ s = (k : Int) := by
  apply List.ext_getElem (by simp)
  intro j h1 h2
  simp only [bools_len] at h2
  rw [List.getElem_set]
  split
  · rename_i e
    subst e
    simp [bools, dec]
  · rename_i e
    have : ¬ ((j : Int) = k) := by omega
    simp [bools, dec, this]
theorem bools_congr {p q : Int → Prop} (h : ∀ s, isS s → (p s ↔ q s)) : bools p = bools q := by
  apply List.ext_getElem (by simp)
  intro j h1 h2
  simp only [bools_len] at h2
  simp [bools, dec, h j (inS j h2)]
theorem repl_flat {α : Type} (x : α) : ∀ n : Nat, (List.replicate n [x]).flatten = List.replicate n x
  | 0 => rfl
  | n + 1 => by simp [List.replicate_succ, repl_flat x n]
theorem bools_none : List.replicate 64 (V.bool false) = bools fun _ => False := by
  show _ = (List.range 64).map fun _ => V.bool (dec False)
  rw [dec_false fun h => h, List.map_const', List.length_range]
@[simp] theorem bools_cell (p : Int → Prop) : (bools p).all V.cell = true := by simp [bools, V.cell]
@[simp] theorem bools_ren (r : Nat → Option Nat) (p : Int → Prop) : renL r (bools p) = some (bools p) := by
  unfold bools
  generalize List.range 64 = l
  induction l with
  | nil => rfl
  | cons a l ih => simp [renL, ren1, ih]
end Go.Proofs.Ytmemomfffehnkaa
namespace Go.Proofs.Ytmemomfffehnkaa
open Go Go.RowKit
set_option maxRecDepth 1000000
set_option linter.unusedSimpArgs false
set_option linter.unusedVariables false
set_option maxHeartbeats 1000000
/-- The sets of a family that is given as a word. -/
def bitP (f s : Int) : Prop := f.toNat.testBit s.toNat = true
theorem bitP_fam {p : Int → Prop} {s : Int} (hs : isS s) : bitP (fam p) s ↔ p s := by
  unfold bitP
  rw [fam_bit p hs]
  exact dec_iff
theorem fam_bitP {f : Int} (h1 : 0 ≤ f) (h2 : f < 18446744073709551616) : f = fam (bitP f) := by
  obtain ⟨m, rfl⟩ : ∃ m : Nat, f = m := ⟨f.toNat, by omega⟩
  refine fam_ext (by omega) fun k hk => ?_
  unfold bitP
  simp
/-- The maximal sets of a family. -/
def maxP (p : Int → Prop) (s : Int) : Prop := p s ∧ ∀ t, isS t → p t → subS s t → t = s
theorem maxP_congr {p q : Int → Prop} (h : ∀ s, isS s → (p s ↔ q s)) {s : Int} (hs : isS s) : maxP p s ↔ maxP q s := by
  unfold maxP
  rw [h s hs]
  constructor
  · rintro ⟨a, b⟩; exact ⟨a, fun t ht hq => b t ht ((h t ht).2 hq)⟩
  · rintro ⟨a, b⟩; exact ⟨a, fun t ht hq => b t ht ((h t ht).1 hq)⟩
theorem maxP_down {p q : Int → Prop} (h : ∀ t, isS t → (q t ↔ ∃ u, isS u ∧ p u ∧ subS t u)) {s : Int} (hs : isS s) : maxP p s ↔ maxP q s := by
  constructor
  · rintro ⟨a, b⟩
    refine ⟨(h s hs).2 ⟨s, hs, a, subS_refl hs⟩, fun t ht hq hst => ?_⟩
    obtain ⟨u, hu, hpu, htu⟩ := (h t ht).1 hq
    have e := b u hu hpu (subS_trans hs ht hu hst htu)
    subst e
    exact subS_anti ht hs htu hst
  · rintro ⟨a, b⟩
    obtain ⟨u, hu, hpu, hsu⟩ := (h s hs).1 a
    have e := b u hu ((h u hu).2 ⟨u, hu, hpu, subS_refl hu⟩) hsu
    subst e
    exact ⟨hpu, fun t ht hpt hst => b t ht ((h t ht).2 ⟨t, ht, hpt, subS_refl ht⟩) hst⟩
theorem setsOf_len1 {q : Int → Prop} : (setsOf q).length = 1 ↔ ∃ t, isS t ∧ q t ∧ ∀ u, isS u → q u → u = t := by
  constructor
  · intro h
    obtain ⟨t, ht⟩ := List.length_eq_one_iff.1 h
    have h1 := mem_setsOf.1 (show t ∈ setsOf q by rw [ht]; simp)
    refine ⟨t, h1.1, h1.2, fun u hu hq => ?_⟩
    have := mem_setsOf.2 ⟨hu, hq⟩
    rw [ht] at this
    simpa using this
  · rintro ⟨t, h1, h2, h3⟩
    have ha : (setsOf q).length ≤ [t].length := sub_len (setsOf_nodup q) fun x hx => by
      have := mem_setsOf.1 hx
      simp [h3 x this.1 this.2]
    have hb : t ∈ setsOf q := mem_setsOf.2 ⟨h1, h2⟩
    have hc : 0 < (setsOf q).length := List.length_pos_of_mem hb
    simp at ha
    omega
theorem setsOf_nil {q : Int → Prop} : setsOf q = [] ↔ ∀ s, isS s → ¬ q s := by
  constructor
  · intro h s hs hq
    have := mem_setsOf.2 ⟨hs, hq⟩
    rw [h] at this
    simp at this
  · intro h
    rw [← setsOf_none]
    exact setsOf_congr fun s hs => ⟨fun hq => h s hs hq, False.elim⟩
theorem filt_pos {l : List Int} {k : Nat} (h : k < l.length) {q : Int → Bool} (hq : q (at0 l k) = true) : (l.take (k + 1)).filter q = (l.take k).filter q ++ [at0 l k] := by
  rw [take_at h, List.filter_append]
  simp [hq]
theorem filt_neg {l : List Int} {k : Nat} (h : k < l.length) {q : Int → Bool} (hq : q (at0 l k) = false) : (l.take (k + 1)).filter q = (l.take k).filter q := by
  rw [take_at h, List.filter_append]
  simp [hq]
theorem filt_len (l : List Int) (k : Nat) (q : Int → Bool) : ((l.take k).filter q).length ≤ l.length := by
  have h1 := List.length_filter_le q (l.take k)
  have h2 : (l.take k).length ≤ l.length := by simp; omega
  omega
theorem filt_setsOf (p : Int → Prop) (q : Int → Prop) : (setsOf p).filter (fun s => dec (q s)) = setsOf fun s => p s ∧ q s := by
  rw [filter_setsOf]
  exact setsOf_congr fun s _ => by rw [dec_iff]
/-- The only other set of a family of which s is a part. -/
def freeOf (p : Int → Prop) (s t : Int) : Prop := isS t ∧ (p t ∧ subS s t ∧ t ≠ s) ∧ ∀ u, isS u → (p u ∧ subS s u ∧ u ≠ s) → u = t
theorem freeOf_congr {p q : Int → Prop} (h : ∀ s, isS s → (p s ↔ q s)) (s t : Int) : freeOf p s t ↔ freeOf q s t := by
  unfold freeOf
  constructor
  · rintro ⟨a, b, c⟩
    exact ⟨a, ⟨(h t a).1 b.1, b.2⟩, fun u hu hq => c u hu ⟨(h u hu).2 hq.1, hq.2⟩⟩
  · rintro ⟨a, b, c⟩
    exact ⟨a, ⟨(h t a).2 b.1, b.2⟩, fun u hu hq => c u hu ⟨(h u hu).1 hq.1, hq.2⟩⟩
theorem freeOf_unique {p : Int → Prop} {s t u : Int} (h : freeOf p s t) (k : freeOf p s u) : t = u := (k.2.2 t h.1 h.2.1)
theorem above_len1 (p : Int → Prop) (s : Int) : ((setsOf p).filter fun t => dec (subS s t ∧ t ≠ s)).length = 1 ↔ ∃ t, freeOf p s t := by
  rw [filt_setsOf, setsOf_len1]
  exact Iff.rfl
open Classical in
/-- What the search for the only other set gives. -/
noncomputable def partnerV (p : Int → Prop) (s : Int) : Int := if h : ∃ t, freeOf p s t then Classical.choose h else if ∃ u, isS u ∧ p u ∧ subS s u ∧ u ≠ s then 0 else -1
theorem partnerV_of {p : Int → Prop} {s t : Int} (h : freeOf p s t) : partnerV p s = t := by
  have hx : ∃ t, freeOf p s t := ⟨t, h⟩
  unfold partnerV
  rw [dif_pos hx]
  exact freeOf_unique (Classical.choose_spec hx) h
theorem partnerV_none {p : Int → Prop} {s : Int} (h : ∀ u, isS u → ¬ (p u ∧ subS s u ∧ u ≠ s)) : partnerV p s = -1 := by
  unfold partnerV
  rw [dif_neg (fun ⟨t, ht⟩ => h t ht.1 ht.2.1), if_neg (fun ⟨u, hu, hq⟩ => h u hu hq)]
theorem partnerV_two {p : Int → Prop} {s t u : Int} (ht : isS t) (hu : isS u) (h1 : p t ∧ subS s t ∧ t ≠ s) (h2 : p u ∧ subS s u ∧ u ≠ s) (hne : t ≠ u) : partnerV p s = 0 ∧ ¬ ∃ t, freeOf p s t := by
  have hx : ¬ ∃ t, freeOf p s t := fun ⟨v, hv⟩ => hne ((hv.2.2 t ht h1).trans (hv.2.2 u hu h2).symm)
  unfold partnerV
  rw [dif_neg hx, if_pos ⟨t, ht, h1⟩]
  exact ⟨rfl, hx⟩
theorem partnerV_congr {p q : Int → Prop} (h : ∀ s, isS s → (p s ↔ q s)) (s : Int) : partnerV p s = partnerV q s := by
  by_cases e1 : ∃ t, freeOf p s t
  · obtain ⟨t, ht⟩ := e1
    rw [partnerV_of ht, partnerV_of ((freeOf_congr h s t).1 ht)]
  · have e2 : ¬ ∃ t, freeOf q s t := fun ⟨t, ht⟩ => e1 ⟨t, (freeOf_congr h s t).2 ht⟩
    unfold partnerV
    rw [dif_neg e1, dif_neg e2]
    have e3 : (∃ u, isS u ∧ p u ∧ subS s u ∧ u ≠ s) ↔ ∃ u, isS u ∧ q u ∧ subS s u ∧ u ≠ s := by
      constructor
      · rintro ⟨u, a, b, c⟩; exact ⟨u, a, (h u a).1 b, c⟩
      · rintro ⟨u, a, b, c⟩; exact ⟨u, a, (h u a).2 b, c⟩
    by_cases h1 : ∃ u, isS u ∧ p u ∧ subS s u ∧ u ≠ s
    · rw [if_pos h1, if_pos (e3.1 h1)]
    · rw [if_neg h1, if_neg fun h => h1 (e3.2 h)]
end Go.Proofs.Ytmemomfffehnkaa
namespace Go.Proofs.Ytmemomfffehnkaa
open Go Go.RowKit
set_option maxRecDepth 1000000
set_option linter.unusedSimpArgs false
set_option linter.unusedVariables false
set_option maxHeartbeats 1000000
theorem pc_sub : ∀ x : Nat, x < 64 → ∀ y : Nat, y < 64 → (x &&& y != x || decide (pcF 6 x ≤ pcF 6 y) && (x == y || decide (pcF 6 x < pcF 6 y))) = true := by decide +kernel
theorem sz_sub {a b : Int} (ha : isS a) (hb : isS b) (h : subS a b) : sz a ≤ sz b ∧ (a ≠ b → sz a < sz b) := by
  obtain ⟨x, hx, rfl⟩ := isS_nat ha
  obtain ⟨y, hy, rfl⟩ := isS_nat hb
  have k := pc_sub x hx y hy
  rw [subS_nat x y hx hy] at h
  simp only [sz, Int.toNat_natCast, pc6 x hx, pc6 y hy]
  simp only [Bool.or_eq_true, bne_iff_ne, Bool.and_eq_true, decide_eq_true_eq, beq_iff_eq] at k
  rcases k with k | ⟨k1, k2⟩
  · exact absurd h k
  · refine ⟨by omega, fun hne => ?_⟩
    rcases k2 with k2 | k2
    · subst k2; exact absurd rfl hne
    · omega
theorem before_at {l : List Int} (h : l.Pairwise fun a b => before a b = true) {i j : Nat} (hij : i < j) (hj : j < l.length) : before (at0 l i) (at0 l j) = true := by
  have := List.pairwise_iff_getElem.1 h i j (by omega) hj hij
  rwa [← at0_eq, ← at0_eq] at this
theorem max_iff_later (p : Int → Prop) {k : Nat} (hk : k < (setsOf p).length) : maxP p (at0 (setsOf p) k) ↔ ∀ j, k < j → j < (setsOf p).length → ¬ subS (at0 (setsOf p) k) (at0 (setsOf p) j) := by
  obtain ⟨hs, hp⟩ := mem_setsOf.1 (getD_mem' hk)
  constructor
  · rintro ⟨_, h⟩ j hkj hj hsub
    obtain ⟨ht, hpt⟩ := mem_setsOf.1 (getD_mem' hj)
    have e := h _ ht hpt hsub
    have hb := before_at (setsOf_sorted p) hkj hj
    rw [e] at hb
    simp only [before, decide_eq_true_eq] at hb
    omega
  · intro h
    refine ⟨hp, fun t ht hpt hst => Classical.byContradiction fun hne => ?_⟩
    obtain ⟨j, hj, e⟩ := getD_mem_iff.1 (mem_setsOf.2 ⟨ht, hpt⟩)
    have hlt := (sz_sub hs ht hst).2 fun e => hne e.symm
    rcases Nat.lt_trichotomy j k with h1 | h1 | h1
    · have hb := before_at (setsOf_sorted p) h1 hk
      rw [e] at hb
      simp only [before, decide_eq_true_eq] at hb
      omega
    · subst h1
      exact hne e.symm
    · exact h j h1 hj (by rw [e]; exact hst)
theorem max_iff_all (p : Int → Prop) {k : Nat} (hk : k < (setsOf p).length) : maxP p (at0 (setsOf p) k) ↔ ∀ j, j < (setsOf p).length → at0 (setsOf p) k ≠ at0 (setsOf p) j → ¬ subS (at0 (setsOf p) k) (at0 (setsOf p) j) := by
  obtain ⟨hs, hp⟩ := mem_setsOf.1 (getD_mem' hk)
  constructor
  · rintro ⟨_, h⟩ j hj hne hsub
    obtain ⟨ht, hpt⟩ := mem_setsOf.1 (getD_mem' hj)
    exact hne (h _ ht hpt hsub).symm
  · intro h
    refine ⟨hp, fun t ht hpt hst => Classical.byContradiction fun hne => ?_⟩
    obtain ⟨j, hj, e⟩ := getD_mem_iff.1 (mem_setsOf.2 ⟨ht, hpt⟩)
    exact h j hj (fun e2 => hne (e2.trans e).symm) (by rw [e]; exact hst)
theorem filt_max (p : Int → Prop) : (setsOf p).filter (fun s => dec (maxP p s)) = setsOf (maxP p) := by
  rw [filt_setsOf]
  exact setsOf_congr fun s _ => ⟨fun h => h.2, fun h => ⟨h.1, h⟩⟩
/-- By points. -/
theorem subS_tb {a b : Int} (ha : isS a) (hb : isS b) : subS a b ↔ ∀ i, i < 6 → tb a i → tb b i := by
  constructor
  · intro h i hi
    have e := (subS_iff ha hb).1 h
    intro h2
    rw [← e] at h2
    exact ((band_bits ha hb hi).1 h2).2
  · intro h
    refine (subS_iff ha hb).2 (tb_ext (isS_band ha hb) ha fun i hi => ?_)
    rw [band_bits ha hb hi]
    exact ⟨fun h => h.1, fun h2 => ⟨h2, h i hi h2⟩⟩
theorem tb_bnot_iff {a b : Int} (ha : isS a) (hb : isS b) {i : Nat} (hi : i < 6) : tb (bnot a b) i ↔ tb a i ∧ ¬ tb b i := by
  obtain ⟨x, hx, rfl⟩ := isS_nat ha
  obtain ⟨y, hy, rfl⟩ := isS_nat hb
  rw [bnot_nat x y hx hy, tb_nat _ i (by omega) hi, tb_nat x i hx hi, tb_nat y i hy hi, bnot_bits x y i hx hy hi]
  cases x.testBit i <;> cases y.testBit i <;> simp
theorem band_none {a b : Int} (ha : isS a) (hb : isS b) : band a b = 0 ↔ ∀ i, i < 6 → ¬ (tb a i ∧ tb b i) := by
  constructor
  · intro h i hi hh
    have := (band_bits ha hb hi).2 hh
    rw [h] at this
    exact tb_zero i hi this
  · intro h
    refine tb_ext (isS_band ha hb) isS_zero fun i hi => ?_
    rw [band_bits ha hb hi]
    exact ⟨fun hh => absurd hh (h i hi), fun hh => absurd hh (tb_zero i hi)⟩
theorem sub_eq_bnot {s f : Int} (hs : isS s) (hf : isS f) (h : subS s f) : f - s = bnot f s := by
  obtain ⟨x, hx, rfl⟩ := isS_nat hs
  obtain ⟨y, hy, rfl⟩ := isS_nat hf
  rw [subS_nat x y hx hy] at h
  have h2 : y &&& x = x := by rw [Nat.and_comm]; exact h
  rw [bnot_nat y x hy hx, h2]
  have : x ≤ y := by rw [← h]; exact Nat.and_le_right
  omega
/-- Sets that with s are faces, and have no point of s. -/
def lnkP (p : Int → Prop) (s t : Int) : Prop := band t s = 0 ∧ p (bor t s)
/-- Faces of which s is no part. -/
def wtoP (p : Int → Prop) (s t : Int) : Prop := p t ∧ ¬ subS s t
theorem lnk_part {t s f : Int} (ht : isS t) (hs : isS s) (hf : isS f) : (band t s = 0 ∧ subS (bor t s) f) ↔ (subS s f ∧ subS t (bnot f s)) := by
  rw [band_none ht hs, subS_tb (isS_bor ht hs) hf, subS_tb hs hf, subS_tb ht (isS_bnot hf hs)]
  constructor
  · rintro ⟨h1, h2⟩
    refine ⟨fun i hi h => h2 i hi ((tb_bor ht hs hi).2 (.inr h)), fun i hi h => (tb_bnot_iff hf hs hi).2 ⟨h2 i hi ((tb_bor ht hs hi).2 (.inl h)), fun h3 => h1 i hi ⟨h, h3⟩⟩⟩
  · rintro ⟨h1, h2⟩
    refine ⟨fun i hi h => ((tb_bnot_iff hf hs hi).1 (h2 i hi h.1)).2 h.2, fun i hi h => ?_⟩
    rcases (tb_bor ht hs hi).1 h with h | h
    · exact ((tb_bnot_iff hf hs hi).1 (h2 i hi h)).1
    · exact h1 i hi h
/-- The link's sets of facets. -/
noncomputable def lnkL (l : List Int) (s : Int) : List Int := (l.filter fun f => dec (subS s f)).map fun f => f - s
theorem lnkL_max {l : List Int} (hl : allS l) {s : Int} (hs : isS s) {t : Int} (ht : isS t) : maxP (fun u => u ∈ lnkL l s) t ↔ maxP (lnkP (faceS l) s) t := by
  refine maxP_down (fun t ht => ?_) ht
  unfold lnkP lnkL
  constructor
  · rintro ⟨h1, f, hf, h2⟩
    obtain ⟨h3, h4⟩ := (lnk_part ht hs (hl f hf)).1 ⟨h1, h2⟩
    have e := sub_eq_bnot hs (hl f hf) h3
    refine ⟨f - s, by rw [e]; exact isS_bnot (hl f hf) hs, List.mem_map.2 ⟨f, List.mem_filter.2 ⟨hf, dec_true h3⟩, rfl⟩, by rw [e]; exact h4⟩
  · rintro ⟨u, hu, hmem, h2⟩
    obtain ⟨f, hf, rfl⟩ := List.mem_map.1 hmem
    obtain ⟨hf, h3⟩ := List.mem_filter.1 hf
    have h3 := dec_iff.1 h3
    rw [sub_eq_bnot hs (hl f hf) h3] at h2
    obtain ⟨h4, h5⟩ := (lnk_part ht hs (hl f hf)).2 ⟨h3, h2⟩
    exact ⟨h4, f, hf, h5⟩
theorem allS_lnkL {l : List Int} (hl : allS l) {s : Int} (hs : isS s) : allS (lnkL l s) := by
  intro x hx
  obtain ⟨f, hf, rfl⟩ := List.mem_map.1 hx
  obtain ⟨hf, h3⟩ := List.mem_filter.1 hf
  rw [sub_eq_bnot hs (hl f hf) (dec_iff.1 h3)]
  exact isS_bnot (hl f hf) hs
end Go.Proofs.Ytmemomfffehnkaa
