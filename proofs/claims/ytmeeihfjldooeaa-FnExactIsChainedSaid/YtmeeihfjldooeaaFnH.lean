import Derived.Test.YtmeeihfjldooeaaFnE
namespace Go.Proofs.Ytmeeihfjldooeaa
open Go Go.RowKit
set_option maxRecDepth 1000000
set_option linter.unusedSimpArgs false
set_option linter.unusedVariables false
set_option maxHeartbeats 1000000
def isS (x : Int) : Prop := 0 ≤ x ∧ x < 64
def allS (l : List Int) : Prop := ∀ x ∈ l, isS x
theorem allS_at {l : List Int} (h : allS l) {j : Nat} (hj : j < l.length) : isS (at0 l j) := h _ (getD_mem' hj)
theorem forS {p : Int → Prop} (h : ∀ x : Nat, x < 64 → p x) {a : Int} (ha : isS a) : p a := by
  have := h a.toNat (by have := ha.1; have := ha.2; omega)
  rwa [Int.toNat_of_nonneg ha.1] at this
theorem forS2 {p : Int → Int → Prop} (h : ∀ x : Nat, x < 64 → ∀ y : Nat, y < 64 → p x y) {a b : Int} (ha : isS a) (hb : isS b) : p a b :=
  forS (p := fun a => p a b) (fun x hx => forS (p := fun b => p x b) (fun y hy => h x hx y hy) hb) ha
abbrev band (a b : Int) : Int := bitop .and .i64 a b
abbrev bor (a b : Int) : Int := bitop .or .i64 a b
abbrev bnot (a b : Int) : Int := bitop .andNot .i64 a b
/-- Is the point in the set. -/
def tb (a : Int) (i : Nat) : Prop := band a (2 ^ i) ≠ 0
instance (a : Int) (i : Nat) : Decidable (tb a i) := by unfold tb; infer_instance
theorem isS_nat0 {s : Int} (h : isS s) : ∃ k : Nat, k < 64 ∧ s = k := ⟨s.toNat, by unfold isS at h; omega, by unfold isS at h; omega⟩
theorem band_nat0 (a b : Nat) (ha : a < 64) (hb : b < 64) : band a b = ((a &&& b : Nat) : Int) := bits_and a b (by omega) (by omega)
theorem bor_nat0 (a b : Nat) (ha : a < 64) (hb : b < 64) : bor a b = ((a ||| b : Nat) : Int) := bits_or a b (by omega) (by omega)
theorem bnot_nat0 (a b : Nat) (ha : a < 64) (hb : b < 64) : bnot a b = ((a - (a &&& b) : Nat) : Int) := by
  have key : ∀ a : Nat, a < 64 → ∀ b : Nat, b < 64 → a &&& (2 ^ 64 - 1 - b) = a - (a &&& b) := by decide +kernel
  have e : bnot (a : Int) (b : Int) = IntKind.i64.wrap ((BitVec.ofInt 64 (a : Int) &&& ~~~ BitVec.ofInt 64 (b : Int)).toNat) := rfl
  have h1 : a &&& (2 ^ 64 - 1 - b) ≤ a := Nat.and_le_left
  rw [e, BitVec.ofInt_natCast, BitVec.ofInt_natCast, BitVec.toNat_and, BitVec.toNat_not, BitVec.toNat_ofNat, BitVec.toNat_ofNat]
  rw [Nat.mod_eq_of_lt (by omega), Nat.mod_eq_of_lt (by omega), ← key a ha b hb]
  exact wrapI _ (by omega) (by omega)
theorem tb_nat (x i : Nat) (hx : x < 64) (hi : i < 6) : tb (x : Int) i ↔ x.testBit i = true := by
  have key : ∀ x : Nat, x < 64 → ∀ i : Nat, i < 6 → (x &&& 2 ^ i ≠ 0 ↔ x.testBit i = true) := by decide +kernel
  have hp : 2 ^ i < 64 := Nat.pow_lt_pow_right (n := 6) (by omega) hi
  have e : ((2 : Int) ^ i) = ((2 ^ i : Nat) : Int) := by simp
  rw [← key x hx i hi, tb, e, band_nat0 x (2 ^ i) hx hp]
  omega
theorem and_lt64 {x y : Nat} (hx : x < 64) : x &&& y < 64 := Nat.lt_of_le_of_lt Nat.and_le_left hx
theorem or_lt64 {x y : Nat} (hx : x < 64) (hy : y < 64) : x ||| y < 64 := Nat.or_lt_two_pow (n := 6) hx hy
theorem isS_bor {a b : Int} (ha : isS a) (hb : isS b) : isS (bor a b) := by
  obtain ⟨x, hx, rfl⟩ := isS_nat0 ha
  obtain ⟨y, hy, rfl⟩ := isS_nat0 hb
  rw [bor_nat0 x y hx hy]
  have := or_lt64 hx hy
  unfold isS; omega
theorem isS_bnot {a b : Int} (ha : isS a) (hb : isS b) : isS (bnot a b) := by
  obtain ⟨x, hx, rfl⟩ := isS_nat0 ha
  obtain ⟨y, hy, rfl⟩ := isS_nat0 hb
  rw [bnot_nat0 x y hx hy]
  unfold isS; omega
theorem isS_band {a b : Int} (ha : isS a) (hb : isS b) : isS (band a b) := by
  obtain ⟨x, hx, rfl⟩ := isS_nat0 ha
  obtain ⟨y, hy, rfl⟩ := isS_nat0 hb
  rw [band_nat0 x y hx hy]
  have := and_lt64 (y := y) hx
  unfold isS; omega
theorem isS_pow {i : Nat} (hi : i < 6) : isS (2 ^ i) := by
  have hp : 2 ^ i < 64 := Nat.pow_lt_pow_right (n := 6) (by omega) hi
  have e : ((2 : Int) ^ i) = ((2 ^ i : Nat) : Int) := by simp
  rw [e]
  generalize (2 : Nat) ^ i = p at *
  unfold isS; omega
theorem pow_nat (i : Nat) : ((2 : Int) ^ i) = ((2 ^ i : Nat) : Int) := by simp
theorem pow_lt64 {i : Nat} (hi : i < 6) : 2 ^ i < 64 := Nat.pow_lt_pow_right (n := 6) (by omega) hi
theorem tb_bor {a b : Int} (ha : isS a) (hb : isS b) {i : Nat} (hi : i < 6) : tb (bor a b) i ↔ tb a i ∨ tb b i := by
  obtain ⟨x, hx, rfl⟩ := isS_nat0 ha
  obtain ⟨y, hy, rfl⟩ := isS_nat0 hb
  rw [bor_nat0 x y hx hy, tb_nat _ i (or_lt64 hx hy) hi, tb_nat x i hx hi, tb_nat y i hy hi, Nat.testBit_or, Bool.or_eq_true]
theorem tb_pow {i j : Nat} (hi : i < 6) (hj : j < 6) : tb (2 ^ i) j ↔ i = j := by
  rw [pow_nat, tb_nat _ j (pow_lt64 hi) hj, Nat.testBit_two_pow, decide_eq_true_iff]
theorem tb_zero (i : Nat) (hi : i < 6) : ¬ tb 0 i := by
  rw [show (0 : Int) = ((0 : Nat) : Int) from rfl, tb_nat 0 i (by omega) hi]
  simp
theorem tb_ext {a b : Int} (ha : isS a) (hb : isS b) (h : ∀ i, i < 6 → (tb a i ↔ tb b i)) : a = b := by
  obtain ⟨x, hx, rfl⟩ := isS_nat0 ha
  obtain ⟨y, hy, rfl⟩ := isS_nat0 hb
  congr 1
  apply Nat.eq_of_testBit_eq
  intro i
  by_cases hi : i < 6
  · have := h i hi
    rw [tb_nat x i hx hi, tb_nat y i hy hi] at this
    exact Bool.eq_iff_iff.2 this
  · have h6 : 64 ≤ 2 ^ i := Nat.pow_le_pow_right (n := 2) (i := 6) (by omega) (by omega)
    rw [Nat.testBit_lt_two_pow (by omega), Nat.testBit_lt_two_pow (by omega)]
theorem bor_again {a : Int} (ha : isS a) {i : Nat} (hi : i < 6) : bor (bor a (2 ^ i)) (2 ^ i) = bor a (2 ^ i) := by
  obtain ⟨x, hx, rfl⟩ := isS_nat0 ha
  rw [pow_nat, bor_nat0 x _ hx (pow_lt64 hi), bor_nat0 _ _ (or_lt64 hx (pow_lt64 hi)) (pow_lt64 hi), Nat.or_assoc, Nat.or_self]
theorem pow_le_of_bit {x i : Nat} (h : x.testBit i = true) : 2 ^ i ≤ x := Nat.ge_two_pow_of_testBit h
theorem sub_pow {s : Int} (hs : isS s) {i : Nat} (hi : i < 6) (ht : tb s i) : isS (s - 2 ^ i) := by
  obtain ⟨x, hx, rfl⟩ := isS_nat0 hs
  have := pow_le_of_bit ((tb_nat x i hx hi).1 ht)
  rw [pow_nat]
  generalize (2 : Nat) ^ i = p at *
  unfold isS; omega
theorem pc6 : ∀ n : Nat, n < 64 → pc n = pcF 6 n := by decide +kernel
theorem ridge_key {s g : Int} (hs : isS s) (hg : isS g) (hn : bnot s g ≠ 0) {i : Nat} (hi : i < 6) : (tb s i ∧ band g (s - 2 ^ i) = s - 2 ^ i) ↔ (sizeOf1 (bnot s g) = 1 ∧ tb (bnot s g) i) := by
  obtain ⟨x, hx, rfl⟩ := isS_nat0 hs
  obtain ⟨y, hy, rfl⟩ := isS_nat0 hg
  have key : ∀ x : Nat, x < 64 → ∀ y : Nat, y < 64 → ∀ i : Nat, i < 6 → (x - (x &&& y) == 0 || ((x.testBit i && (y &&& (x - 2 ^ i)) == x - 2 ^ i) == (pcF 6 (x - (x &&& y)) == 1 && (x - (x &&& y)).testBit i))) = true := by decide +kernel
  have k := key x hx y hy i hi
  rw [bnot_nat0 x y hx hy] at hn ⊢
  have hm : x - (x &&& y) < 64 := by omega
  have h0 : (x - (x &&& y) == 0) = false := by
    rw [beq_eq_false_iff_ne]
    omega
  rw [h0, Bool.false_or, beq_iff_eq, Bool.eq_iff_iff] at k
  simp only [Bool.and_eq_true, beq_iff_eq] at k
  rw [tb_nat x i hx hi, tb_nat _ i hm hi, pow_nat]
  have hz : sizeOf1 ((x - (x &&& y) : Nat) : Int) = (pcF 6 (x - (x &&& y)) : Nat) := by
    rw [sizeOf1_set (by omega) (by omega), sz, Int.toNat_natCast, pc6 _ hm]
  rw [hz]
  have hple : x.testBit i = true → 2 ^ i ≤ x := pow_le_of_bit
  generalize (2 : Nat) ^ i = p at *
  constructor
  · rintro ⟨h1, h2⟩
    have hle := hple h1
    have e : ((x : Int) - (p : Int)) = ((x - p : Nat) : Int) := by omega
    rw [e, band_nat0 y _ hy (by omega)] at h2
    have := k.1 ⟨h1, by omega⟩
    exact ⟨by omega, this.2⟩
  · rintro ⟨h1, h2⟩
    have := k.2 ⟨by omega, h2⟩
    have hle := hple this.1
    have e : ((x : Int) - (p : Int)) = ((x - p : Nat) : Int) := by omega
    rw [e, band_nat0 y _ hy (by omega)]
    exact ⟨this.1, by omega⟩
theorem bnot_bits (x y i : Nat) (hx : x < 64) (hy : y < 64) (hi : i < 6) : (x - (x &&& y)).testBit i = (x.testBit i && !y.testBit i) := by
  have key : ∀ x : Nat, x < 64 → ∀ y : Nat, y < 64 → ∀ i : Nat, i < 6 → (x - (x &&& y)).testBit i = (x.testBit i && !y.testBit i) := by decide +kernel
  exact key x hx y hy i hi
theorem tb_bnot {a b : Int} (ha : isS a) (hb : isS b) {i : Nat} (hi : i < 6) : tb (bnot a b) i → tb a i := by
  obtain ⟨x, hx, rfl⟩ := isS_nat0 ha
  obtain ⟨y, hy, rfl⟩ := isS_nat0 hb
  rw [bnot_nat0 x y hx hy, tb_nat _ i (by omega) hi, tb_nat x i hx hi, bnot_bits x y i hx hy hi, Bool.and_eq_true]
  exact fun h => h.1
theorem band_bits {a b : Int} (ha : isS a) (hb : isS b) {i : Nat} (hi : i < 6) : tb (band a b) i ↔ tb a i ∧ tb b i := by
  obtain ⟨x, hx, rfl⟩ := isS_nat0 ha
  obtain ⟨y, hy, rfl⟩ := isS_nat0 hb
  rw [band_nat0 x y hx hy, tb_nat _ i (and_lt64 hx) hi, tb_nat x i hx hi, tb_nat y i hy hi, Nat.testBit_and, Bool.and_eq_true]
theorem bnot_zero {a b : Int} (ha : isS a) (hb : isS b) : bnot a b = 0 ↔ band b a = a := by
  obtain ⟨x, hx, rfl⟩ := isS_nat0 ha
  obtain ⟨y, hy, rfl⟩ := isS_nat0 hb
  have : x &&& y ≤ x := Nat.and_le_left
  rw [bnot_nat0 x y hx hy, band_nat0 y x hy hx, Nat.and_comm y x]
  omega
theorem bnot_zero2 {a b : Int} (ha : isS a) (hb : isS b) : bnot a b = 0 ↔ band a b = a := by
  obtain ⟨x, hx, rfl⟩ := isS_nat0 ha
  obtain ⟨y, hy, rfl⟩ := isS_nat0 hb
  have : x &&& y ≤ x := Nat.and_le_left
  rw [bnot_nat0 x y hx hy, band_nat0 x y hx hy]
  omega
/-- The points of s without which it lies in one of the sets before. -/
def ridge (before : List Int) (s : Int) (i : Nat) : Prop := tb s i ∧ ∃ g ∈ before, band g (s - 2 ^ i) = s - 2 ^ i
open Classical in
noncomputable def newI (before : List Int) (s : Int) : Nat → Int
  | 0 => 0
  | i + 1 => if ridge before s i then bor (newI before s i) (2 ^ i) else newI before s i
theorem newI_isS (before : List Int) (s : Int) : ∀ i, i ≤ 6 → isS (newI before s i) := by
  intro i
  induction i with
  | zero => intro _; simp [newI, isS]
  | succ i ih =>
    intro h
    simp only [newI]
    split
    · exact isS_bor (ih (by omega)) (isS_pow (by omega))
    · exact ih (by omega)
theorem newI_tb (before : List Int) (s : Int) : ∀ i, i ≤ 6 → ∀ j, j < 6 → (tb (newI before s i) j ↔ j < i ∧ ridge before s j) := by
  intro i
  induction i with
  | zero => intro _ j hj; simp [newI, tb_zero j hj]
  | succ i ih =>
    intro h j hj
    simp only [newI]
    split
    · rename_i hr
      rw [tb_bor (newI_isS before s i (by omega)) (isS_pow (by omega)) hj, ih (by omega) j hj, tb_pow (by omega) hj]
      constructor
      · rintro (⟨h1, h2⟩ | rfl)
        · exact ⟨by omega, h2⟩
        · exact ⟨by omega, hr⟩
      · rintro ⟨h1, h2⟩
        rcases Nat.lt_succ_iff_lt_or_eq.1 h1 with h3 | rfl
        · exact .inl ⟨h3, h2⟩
        · exact .inr rfl
    · rename_i hr
      rw [ih (by omega) j hj]
      constructor
      · rintro ⟨h1, h2⟩; exact ⟨by omega, h2⟩
      · rintro ⟨h1, h2⟩
        rcases Nat.lt_succ_iff_lt_or_eq.1 h1 with h3 | rfl
        · exact ⟨h3, h2⟩
        · exact absurd h2 hr
def partI (before : List Int) (s : Int) : Int := before.foldl (fun o g => if sizeOf1 (bnot s g) = 1 then bor o (bnot s g) else o) 0
theorem take_at {l : List Int} {k : Nat} (h : k < l.length) : l.take (k + 1) = l.take k ++ [at0 l k] := by
  rw [at0_eq h, List.take_succ_eq_append_getElem h]
theorem partI_step {l : List Int} {k : Nat} (h : k < l.length) (s : Int) : partI (l.take (k + 1)) s = if sizeOf1 (bnot s (at0 l k)) = 1 then bor (partI (l.take k) s) (bnot s (at0 l k)) else partI (l.take k) s := by
  rw [take_at h, partI, List.foldl_append]
  rfl
theorem allS_take {l : List Int} (h : allS l) (k : Nat) : allS (l.take k) := fun x hx => h x (List.mem_of_mem_take hx)
theorem partI_isS {l : List Int} (hl : allS l) {s : Int} (hs : isS s) : ∀ k, k ≤ l.length → isS (partI (l.take k) s) := by
  intro k
  induction k with
  | zero => intro _; simp [partI, isS]
  | succ k ih =>
    intro h
    rw [partI_step (by omega)]
    split
    · exact isS_bor (ih (by omega)) (isS_bnot hs (allS_at hl (by omega)))
    · exact ih (by omega)
theorem partI_tb {l : List Int} (hl : allS l) {s : Int} (hs : isS s) {i : Nat} (hi : i < 6) : ∀ k, k ≤ l.length → (tb (partI (l.take k) s) i ↔ ∃ j, j < k ∧ sizeOf1 (bnot s (at0 l j)) = 1 ∧ tb (bnot s (at0 l j)) i) := by
  intro k
  induction k with
  | zero => intro _; simp [partI, tb_zero i hi]
  | succ k ih =>
    intro h
    rw [partI_step (by omega)]
    split
    · rename_i h1
      rw [tb_bor (partI_isS hl hs k (by omega)) (isS_bnot hs (allS_at hl (by omega))) hi, ih (by omega)]
      constructor
      · rintro (⟨j, h2, h3⟩ | h2)
        · exact ⟨j, by omega, h3⟩
        · exact ⟨k, by omega, h1, h2⟩
      · rintro ⟨j, h2, h3⟩
        rcases Nat.lt_succ_iff_lt_or_eq.1 h2 with h4 | rfl
        · exact .inl ⟨j, h4, h3⟩
        · exact .inr h3.2
    · rename_i h1
      rw [ih (by omega)]
      constructor
      · rintro ⟨j, h2, h3⟩; exact ⟨j, by omega, h3⟩
      · rintro ⟨j, h2, h3⟩
        rcases Nat.lt_succ_iff_lt_or_eq.1 h2 with h4 | rfl
        · exact ⟨j, h4, h3⟩
        · exact absurd h3.1 h1
theorem new_part {l : List Int} (hl : allS l) {s : Int} (hs : isS s) (hn : ∀ g ∈ l, bnot s g ≠ 0) : newI l s 6 = partI l s := by
  have e : partI l s = partI (l.take l.length) s := by rw [List.take_length]
  rw [e]
  refine tb_ext (newI_isS l s 6 (by omega)) (partI_isS hl hs _ (Nat.le_refl _)) fun i hi => ?_
  rw [newI_tb l s 6 (by omega) i hi, partI_tb hl hs hi _ (Nat.le_refl _)]
  constructor
  · rintro ⟨_, h1, g, h2, h3⟩
    obtain ⟨j, hj, rfl⟩ := getD_mem_iff.1 h2
    exact ⟨j, hj, (ridge_key hs (allS_at hl hj) (hn _ h2) hi).1 ⟨h1, h3⟩⟩
  · rintro ⟨j, hj, h1⟩
    have h2 := (ridge_key hs (allS_at hl hj) (hn _ (getD_mem' hj)) hi).2 h1
    exact ⟨hi, h2.1, _, getD_mem' hj, h2.2⟩
theorem part_sub {l : List Int} (hl : allS l) {s : Int} (hs : isS s) {i : Nat} (hi : i < 6) (h : tb (partI l s) i) : tb s i := by
  have e : partI l s = partI (l.take l.length) s := by rw [List.take_length]
  rw [e, partI_tb hl hs hi _ (Nat.le_refl _)] at h
  obtain ⟨j, hj, _, h2⟩ := h
  exact tb_bnot hs (allS_at hl hj) hi h2
/-- The reference's test of a set behind others, and the program's. -/
def fitsS (l : List Int) (s : Int) : Prop := l = [] ∨ ∀ g ∈ l, band (band g s) (newI l s 6) ≠ newI l s 6
def fitsI (l : List Int) (s : Int) : Prop := ∀ g ∈ l, bnot (partI l s) g ≠ 0
theorem fits_same {l : List Int} (hl : allS l) {s : Int} (hs : isS s) (hn : ∀ g ∈ l, bnot s g ≠ 0) : fitsS l s ↔ fitsI l s := by
  unfold fitsS fitsI
  rw [new_part hl hs hn]
  have hr : isS (partI l s) := by
    have := partI_isS hl hs l.length (Nat.le_refl _)
    rwa [List.take_length] at this
  have key : ∀ g ∈ l, (band (band g s) (partI l s) = partI l s ↔ bnot (partI l s) g = 0) := by
    intro g hg
    rw [bnot_zero hr (hl g hg)]
    have : band (band g s) (partI l s) = band g (partI l s) := by
      refine tb_ext (isS_band (isS_band (hl g hg) hs) hr) (isS_band (hl g hg) hr) fun i hi => ?_
      rw [band_bits (isS_band (hl g hg) hs) hr hi, band_bits (hl g hg) hs hi, band_bits (hl g hg) hr hi]
      constructor
      · rintro ⟨⟨a, _⟩, c⟩; exact ⟨a, c⟩
      · rintro ⟨a, c⟩; exact ⟨⟨a, part_sub hl hs hi c⟩, c⟩
    rw [this]
  constructor
  · rintro (rfl | h) g hg
    · simp at hg
    · exact fun e => h g hg ((key g hg).2 e)
  · intro h
    exact .inr fun g hg e => h g hg ((key g hg).1 e)
end Go.Proofs.Ytmeeihfjldooeaa
