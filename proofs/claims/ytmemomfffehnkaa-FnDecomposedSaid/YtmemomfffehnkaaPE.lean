import Derived.Test.YtmemomfffehnkaaPD
import Derived.Test.YtmemomfffehnkaaPC
namespace Go.Proofs.Ytmemomfffehnkaa
open Go Go.RowKit
set_option maxRecDepth 1000000
set_option linter.unusedSimpArgs false
set_option linter.unusedVariables false
set_option maxHeartbeats 1000000
def isS (x : Int) : Prop := 0 ≤ x ∧ x < 64
def allS (l : List Int) : Prop := ∀ x ∈ l, isS x
theorem allS_at {l : List Int} (h : allS l) {j : Nat} (hj : j < l.length) : isS (at0 l j) := h _ (getD_mem' hj)
theorem forS {p : Int → Prop} (h : ∀ x : Nat, x < 64 → p x) {a : Int} (ha : isS a) : p a := by
  have := h a.toNat (by have := ha.1; have := ha.2; omega)
  rwa [Int.toNat_of_nonneg ha.1] at this
abbrev band (a b : Int) : Int := bitop .and .i64 a b
abbrev bor (a b : Int) : Int := bitop .or .i64 a b
abbrev bnot (a b : Int) : Int := bitop .andNot .i64 a b
/-- Is the point in the set. -/
def tb (a : Int) (i : Nat) : Prop := band a (2 ^ i) ≠ 0
instance (a : Int) (i : Nat) : Decidable (tb a i) := by unfold tb; infer_instance
theorem isS_nat0 {s : Int} (h : isS s) : ∃ k : Nat, k < 64 ∧ s = k := ⟨s.toNat, by unfold isS at h; omega, by unfold isS at h; omega⟩
theorem band_nat0 (a b : Nat) (ha : a < 64) (hb : b < 64) : band a b = ((a &&& b : Nat) : Int) := bits_and a b (by omega) (by omega)
theorem bor_nat0 (a b : Nat) (ha : a < 64) (hb : b < 64) : bor a b = ((a ||| b : Nat) : Int) := bits_or a b (by omega) (by omega)
theorem bnot_nat0 (a b : Nat) (ha : a < 64) (hb : b < 64) : bnot a b = ((a - (a &&& b) : Nat) : Int) := by
  have key : ∀ a : Nat, a < 64 → ∀ b : Nat, b < 64 → a &&& (2 ^ 64 - 1 - b) = a - (a &&& b) := by decide +kernel
  have e : bnot (a : Int) (b : Int) = IntKind.i64.wrap ((BitVec.ofInt 64 (a : Int) &&& ~~~ BitVec.ofInt 64 (b : Int)).toNat) := rfl
  have h1 : a &&& (2 ^ 64 - 1 - b) ≤ a := Nat.and_le_left
  rw [e, BitVec.ofInt_natCast, BitVec.ofInt_natCast, BitVec.toNat_and, BitVec.toNat_not, BitVec.toNat_ofNat, BitVec.toNat_ofNat]
  rw [Nat.mod_eq_of_lt (by omega), Nat.mod_eq_of_lt (by omega), ← key a ha b hb]
  exact wrapI _ (by omega) (by omega)
theorem tb_nat (x i : Nat) (hx : x < 64) (hi : i < 6) : tb (x : Int) i ↔ x.testBit i = true := by
  have key : ∀ x : Nat, x < 64 → ∀ i : Nat, i < 6 → (x &&& 2 ^ i ≠ 0 ↔ x.testBit i = true) := by decide +kernel
  have hp : 2 ^ i < 64 := Nat.pow_lt_pow_right (n := 6) (by omega) hi
  have e : ((2 : Int) ^ i) = ((2 ^ i : Nat) : Int) := by simp
  rw [← key x hx i hi, tb, e, band_nat0 x (2 ^ i) hx hp]
  omega
theorem and_lt64 {x y : Nat} (hx : x < 64) : x &&& y < 64 := Nat.lt_of_le_of_lt Nat.and_le_left hx
theorem or_lt64 {x y : Nat} (hx : x < 64) (hy : y < 64) : x ||| y < 64 := Nat.or_lt_two_pow (n := 6) hx hy
theorem isS_bor {a b : Int} (ha : isS a) (hb : isS b) : isS (bor a b) := by
  obtain ⟨x, hx, rfl⟩ := isS_nat0 ha
  obtain ⟨y, hy, rfl⟩ := isS_nat0 hb
  rw [bor_nat0 x y hx hy]
  have := or_lt64 hx hy
  unfold isS; omega
theorem isS_bnot {a b : Int} (ha : isS a) (hb : isS b) : isS (bnot a b) := by
  obtain ⟨x, hx, rfl⟩ := isS_nat0 ha
  obtain ⟨y, hy, rfl⟩ := isS_nat0 hb
  rw [bnot_nat0 x y hx hy]
  unfold isS; omega
theorem isS_band {a b : Int} (ha : isS a) (hb : isS b) : isS (band a b) := by
  obtain ⟨x, hx, rfl⟩ := isS_nat0 ha
  obtain ⟨y, hy, rfl⟩ := isS_nat0 hb
  rw [band_nat0 x y hx hy]
  have := and_lt64 (y := y) hx
  unfold isS; omega
theorem isS_pow {i : Nat} (hi : i < 6) : isS (2 ^ i) := by
  have hp : 2 ^ i < 64 := Nat.pow_lt_pow_right (n := 6) (by omega) hi
  have e : ((2 : Int) ^ i) = ((2 ^ i : Nat) : Int) := by simp
  rw [e]
  generalize (2 : Nat) ^ i = p at *
  unfold isS; omega
theorem pow_nat (i : Nat) : ((2 : Int) ^ i) = ((2 ^ i : Nat) : Int) := by simp
theorem pow_lt64 {i : Nat} (hi : i < 6) : 2 ^ i < 64 := Nat.pow_lt_pow_right (n := 6) (by omega) hi
theorem tb_bor {a b : Int} (ha : isS a) (hb : isS b) {i : Nat} (hi : i < 6) : tb (bor a b) i ↔ tb a i ∨ tb b i := by
  obtain ⟨x, hx, rfl⟩ := isS_nat0 ha
  obtain ⟨y, hy, rfl⟩ := isS_nat0 hb
  rw [bor_nat0 x y hx hy, tb_nat _ i (or_lt64 hx hy) hi, tb_nat x i hx hi, tb_nat y i hy hi, Nat.testBit_or, Bool.or_eq_true]
theorem tb_pow {i j : Nat} (hi : i < 6) (hj : j < 6) : tb (2 ^ i) j ↔ i = j := by
  rw [pow_nat, tb_nat _ j (pow_lt64 hi) hj, Nat.testBit_two_pow, decide_eq_true_iff]
theorem tb_zero (i : Nat) (hi : i < 6) : ¬ tb 0 i := by
  rw [show (0 : Int) = ((0 : Nat) : Int) from rfl, tb_nat 0 i (by omega) hi]
  simp
theorem tb_ext {a b : Int} (ha : isS a) (hb : isS b) (h : ∀ i, i < 6 → (tb a i ↔ tb b i)) : a = b := by
  obtain ⟨x, hx, rfl⟩ := isS_nat0 ha
  obtain ⟨y, hy, rfl⟩ := isS_nat0 hb
  congr 1
  apply Nat.eq_of_testBit_eq
  intro i
  by_cases hi : i < 6
  · have := h i hi
    rw [tb_nat x i hx hi, tb_nat y i hy hi] at this
    exact Bool.eq_iff_iff.2 this
  · have h6 : 64 ≤ 2 ^ i := Nat.pow_le_pow_right (n := 2) (i := 6) (by omega) (by omega)
    rw [Nat.testBit_lt_two_pow (by omega), Nat.testBit_lt_two_pow (by omega)]
theorem bor_again {a : Int} (ha : isS a) {i : Nat} (hi : i < 6) : bor (bor a (2 ^ i)) (2 ^ i) = bor a (2 ^ i) := by
  obtain ⟨x, hx, rfl⟩ := isS_nat0 ha
  rw [pow_nat, bor_nat0 x _ hx (pow_lt64 hi), bor_nat0 _ _ (or_lt64 hx (pow_lt64 hi)) (pow_lt64 hi), Nat.or_assoc, Nat.or_self]
theorem pow_le_of_bit {x i : Nat} (h : x.testBit i = true) : 2 ^ i ≤ x := Nat.ge_two_pow_of_testBit h
theorem sub_pow {s : Int} (hs : isS s) {i : Nat} (hi : i < 6) (ht : tb s i) : isS (s - 2 ^ i) := by
  obtain ⟨x, hx, rfl⟩ := isS_nat0 hs
  have := pow_le_of_bit ((tb_nat x i hx hi).1 ht)
  rw [pow_nat]
  generalize (2 : Nat) ^ i = p at *
  unfold isS; omega
theorem pc6 : ∀ n : Nat, n < 64 → pc n = pcF 6 n := by decide +kernel
theorem ridge_key {s g : Int} (hs : isS s) (hg : isS g) (hn : bnot s g ≠ 0) {i : Nat} (hi : i < 6) : (tb s i ∧ band g (s - 2 ^ i) = s - 2 ^ i) ↔ (sizeOf1 (bnot s g) = 1 ∧ tb (bnot s g) i) := by
  obtain ⟨x, hx, rfl⟩ := isS_nat0 hs
  obtain ⟨y, hy, rfl⟩ := isS_nat0 hg
  have key : ∀ x : Nat, x < 64 → ∀ y : Nat, y < 64 → ∀ i : Nat, i < 6 → (x - (x &&& y) == 0 || ((x.testBit i && (y &&& (x - 2 ^ i)) == x - 2 ^ i) == (pcF 6 (x - (x &&& y)) == 1 && (x - (x &&& y)).testBit i))) = true := by decide +kernel
  have k := key x hx y hy i hi
  rw [bnot_nat0 x y hx hy] at hn ⊢
  have hm : x - (x &&& y) < 64 := by omega
  have h0 : (x - (x &&& y) == 0) = false := by
    rw [beq_eq_false_iff_ne]
    omega
  rw [h0, Bool.false_or, beq_iff_eq, Bool.eq_iff_iff] at k
  simp only [Bool.and_eq_true, beq_iff_eq] at k
  rw [tb_nat x i hx hi, tb_nat _ i hm hi, pow_nat]
  have hz : sizeOf1 ((x - (x &&& y) : Nat) : Int) = (pcF 6 (x - (x &&& y)) : Nat) := by
    rw [sizeOf1_set (by omega) (by omega), sz, Int.toNat_natCast, pc6 _ hm]
  rw [hz]
  have hple : x.testBit i = true → 2 ^ i ≤ x := pow_le_of_bit
  generalize (2 : Nat) ^ i = p at *
  constructor
  · rintro ⟨h1, h2⟩
    have hle := hple h1
    have e : ((x : Int) - (p : Int)) = ((x - p : Nat) : Int) := by omega
    rw [e, band_nat0 y _ hy (by omega)] at h2
    have := k.1 ⟨h1, by omega⟩
    exact ⟨by omega, this.2⟩
  · rintro ⟨h1, h2⟩
    have := k.2 ⟨by omega, h2⟩
    have hle := hple this.1
    have e : ((x : Int) - (p : Int)) = ((x - p : Nat) : Int) := by omega
    rw [e, band_nat0 y _ hy (by omega)]
    exact ⟨this.1, by omega⟩
theorem bnot_bits (x y i : Nat) (hx : x < 64) (hy : y < 64) (hi : i < 6) : (x - (x &&& y)).testBit i = (x.testBit i && !y.testBit i) := by
  have key : ∀ x : Nat, x < 64 → ∀ y : Nat, y < 64 → ∀ i : Nat, i < 6 → (x - (x &&& y)).testBit i = (x.testBit i && !y.testBit i) := by decide +kernel
  exact key x hx y hy i hi
theorem tb_bnot {a b : Int} (ha : isS a) (hb : isS b) {i : Nat} (hi : i < 6) : tb (bnot a b) i → tb a i := by
  obtain ⟨x, hx, rfl⟩ := isS_nat0 ha
  obtain ⟨y, hy, rfl⟩ := isS_nat0 hb
  rw [bnot_nat0 x y hx hy, tb_nat _ i (by omega) hi, tb_nat x i hx hi, bnot_bits x y i hx hy hi, Bool.and_eq_true]
  exact fun h => h.1
theorem band_bits {a b : Int} (ha : isS a) (hb : isS b) {i : Nat} (hi : i < 6) : tb (band a b) i ↔ tb a i ∧ tb b i := by
  obtain ⟨x, hx, rfl⟩ := isS_nat0 ha
  obtain ⟨y, hy, rfl⟩ := isS_nat0 hb
  rw [band_nat0 x y hx hy, tb_nat _ i (and_lt64 hx) hi, tb_nat x i hx hi, tb_nat y i hy hi, Nat.testBit_and, Bool.and_eq_true]
theorem bnot_zero {a b : Int} (ha : isS a) (hb : isS b) : bnot a b = 0 ↔ band b a = a := by
  obtain ⟨x, hx, rfl⟩ := isS_nat0 ha
  obtain ⟨y, hy, rfl⟩ := isS_nat0 hb
  have : x &&& y ≤ x := Nat.and_le_left
  rw [bnot_nat0 x y hx hy, band_nat0 y x hy hx, Nat.and_comm y x]
  omega
theorem bnot_zero2 {a b : Int} (ha : isS a) (hb : isS b) : bnot a b = 0 ↔ band a b = a := by
  obtain ⟨x, hx, rfl⟩ := isS_nat0 ha
  obtain ⟨y, hy, rfl⟩ := isS_nat0 hb
  have : x &&& y ≤ x := Nat.and_le_left
  rw [bnot_nat0 x y hx hy, band_nat0 x y hx hy]
  omega
/-- The points of s without which it lies in one of the sets before. -/
def ridge (before : List Int) (s : Int) (i : Nat) : Prop := tb s i ∧ ∃ g ∈ before, band g (s - 2 ^ i) = s - 2 ^ i
open Classical in
noncomputable def newI (before : List Int) (s : Int) : Nat → Int
  | 0 => 0
  | i + 1 => if ridge before s i then bor (newI before s i) (2 ^ i) else newI before s i
theorem newI_isS (before : List Int) (s : Int) : ∀ i, i ≤ 6 → isS (newI before s i) := by
  intro i
  induction i with
  | zero => intro _; simp [newI, isS]
  | succ i ih =>
    intro h
    simp only [newI]
    split
    · exact isS_bor (ih (by omega)) (isS_pow (by omega))
    · exact ih (by omega)
theorem newI_tb (before : List Int) (s : Int) : ∀ i, i ≤ 6 → ∀ j, j < 6 → (tb (newI before s i) j ↔ j < i ∧ ridge before s j) := by
  intro i
  induction i with
  | zero => intro _ j hj; simp [newI, tb_zero j hj]
  | succ i ih =>
    intro h j hj
    simp only [newI]
    split
    · rename_i hr
      rw [tb_bor (newI_isS before s i (by omega)) (isS_pow (by omega)) hj, ih (by omega) j hj, tb_pow (by omega) hj]
      constructor
      · rintro (⟨h1, h2⟩ | rfl)
        · exact ⟨by omega, h2⟩
        · exact ⟨by omega, hr⟩
      · rintro ⟨h1, h2⟩
        rcases Nat.lt_succ_iff_lt_or_eq.1 h1 with h3 | rfl
        · exact .inl ⟨h3, h2⟩
        · exact .inr rfl
    · rename_i hr
      rw [ih (by omega) j hj]
      constructor
      · rintro ⟨h1, h2⟩; exact ⟨by omega, h2⟩
      · rintro ⟨h1, h2⟩
        rcases Nat.lt_succ_iff_lt_or_eq.1 h1 with h3 | rfl
        · exact ⟨h3, h2⟩
        · exact absurd h2 hr
def partI (before : List Int) (s : Int) : Int := before.foldl (fun o g => if sizeOf1 (bnot s g) = 1 then bor o (bnot s g) else o) 0
theorem take_at {l : List Int} {k : Nat} (h : k < l.length) : l.take (k + 1) = l.take k ++ [at0 l k] := by
  rw [at0_eq h, List.take_succ_eq_append_getElem h]
theorem partI_step {l : List Int} {k : Nat} (h : k < l.length) (s : Int) : partI (l.take (k + 1)) s = if sizeOf1 (bnot s (at0 l k)) = 1 then bor (partI (l.take k) s) (bnot s (at0 l k)) else partI (l.take k) s := by
  rw [take_at h, partI, List.foldl_append]
  rfl
theorem allS_take {l : List Int} (h : allS l) (k : Nat) : allS (l.take k) := fun x hx => h x (List.mem_of_mem_take hx)
theorem partI_isS {l : List Int} (hl : allS l) {s : Int} (hs : isS s) : ∀ k, k ≤ l.length → isS (partI (l.take k) s) := by
  intro k
  induction k with
  | zero => intro _; simp [partI, isS]
  | succ k ih =>
    intro h
    rw [partI_step (by omega)]
    split
    · exact isS_bor (ih (by omega)) (isS_bnot hs (allS_at hl (by omega)))
    · exact ih (by omega)
theorem partI_tb {l : List Int} (hl : allS l) {s : Int} (hs : isS s) {i : Nat} (hi : i < 6) : ∀ k, k ≤ l.length → (tb (partI (l.take k) s) i ↔ ∃ j, j < k ∧ sizeOf1 (bnot s (at0 l j)) = 1 ∧ tb (bnot s (at0 l j)) i) := by
  intro k
  induction k with
  | zero => intro _; simp [partI, tb_zero i hi]
  | succ k ih =>
    intro h
    rw [partI_step (by omega)]
    split
    · rename_i h1
      rw [tb_bor (partI_isS hl hs k (by omega)) (isS_bnot hs (allS_at hl (by omega))) hi, ih (by omega)]
      constructor
      · rintro (⟨j, h2, h3⟩ | h2)
        · exact ⟨j, by omega, h3⟩
        · exact ⟨k, by omega, h1, h2⟩
      · rintro ⟨j, h2, h3⟩
        rcases Nat.lt_succ_iff_lt_or_eq.1 h2 with h4 | rfl
        · exact .inl ⟨j, h4, h3⟩
        · exact .inr h3.2
    · rename_i h1
      rw [ih (by omega)]
      constructor
      · rintro ⟨j, h2, h3⟩; exact ⟨j, by omega, h3⟩
      · rintro ⟨j, h2, h3⟩
        rcases Nat.lt_succ_iff_lt_or_eq.1 h2 with h4 | rfl
        · exact ⟨j, h4, h3⟩
        · exact absurd h3.1 h1
theorem new_part {l : List Int} (hl : allS l) {s : Int} (hs : isS s) (hn : ∀ g ∈ l, bnot s g ≠ 0) : newI l s 6 = partI l s := by
  have e : partI l s = partI (l.take l.length) s := by rw [List.take_length]
  rw [e]
  refine tb_ext (newI_isS l s 6 (by omega)) (partI_isS hl hs _ (Nat.le_refl _)) fun i hi => ?_
  rw [newI_tb l s 6 (by omega) i hi, partI_tb hl hs hi _ (Nat.le_refl _)]
  constructor
  · rintro ⟨_, h1, g, h2, h3⟩
    obtain ⟨j, hj, rfl⟩ := getD_mem_iff.1 h2
    exact ⟨j, hj, (ridge_key hs (allS_at hl hj) (hn _ h2) hi).1 ⟨h1, h3⟩⟩
  · rintro ⟨j, hj, h1⟩
    have h2 := (ridge_key hs (allS_at hl hj) (hn _ (getD_mem' hj)) hi).2 h1
    exact ⟨hi, h2.1, _, getD_mem' hj, h2.2⟩
theorem part_sub {l : List Int} (hl : allS l) {s : Int} (hs : isS s) {i : Nat} (hi : i < 6) (h : tb (partI l s) i) : tb s i := by
  have e : partI l s = partI (l.take l.length) s := by rw [List.take_length]
  rw [e, partI_tb hl hs hi _ (Nat.le_refl _)] at h
  obtain ⟨j, hj, _, h2⟩ := h
  exact tb_bnot hs (allS_at hl hj) hi h2
/-- The reference's test of a set behind others, and the program's. -/
def fitsS (l : List Int) (s : Int) : Prop := l = [] ∨ ∀ g ∈ l, band (band g s) (newI l s 6) ≠ newI l s 6
def fitsI (l : List Int) (s : Int) : Prop := ∀ g ∈ l, bnot (partI l s) g ≠ 0
theorem fits_same {l : List Int} (hl : allS l) {s : Int} (hs : isS s) (hn : ∀ g ∈ l, bnot s g ≠ 0) : fitsS l s ↔ fitsI l s := by
  unfold fitsS fitsI
  rw [new_part hl hs hn]
  have hr : isS (partI l s) := by
    have := partI_isS hl hs l.length (Nat.le_refl _)
    rwa [List.take_length] at this
  have key : ∀ g ∈ l, (band (band g s) (partI l s) = partI l s ↔ bnot (partI l s) g = 0) := by
    intro g hg
    rw [bnot_zero hr (hl g hg)]
    have : band (band g s) (partI l s) = band g (partI l s) := by
      refine tb_ext (isS_band (isS_band (hl g hg) hs) hr) (isS_band (hl g hg) hr) fun i hi => ?_
      rw [band_bits (isS_band (hl g hg) hs) hr hi, band_bits (hl g hg) hs hi, band_bits (hl g hg) hr hi]
      constructor
      · rintro ⟨⟨a, _⟩, c⟩; exact ⟨a, c⟩
      · rintro ⟨a, c⟩; exact ⟨⟨a, part_sub hl hs hi c⟩, c⟩
    rw [this]
  constructor
  · rintro (rfl | h) g hg
    · simp at hg
    · exact fun e => h g hg ((key g hg).2 e)
  · intro h
    exact .inr fun g hg e => h g hg ((key g hg).1 e)
end Go.Proofs.Ytmemomfffehnkaa
namespace Go.Proofs.Ytmemomfffehnkaa
open Go Go.RowKit
set_option maxRecDepth 1000000
set_option linter.unusedSimpArgs false
set_option linter.unusedVariables false
set_option maxHeartbeats 1000000
def sc_s_l19New_L2 : SC := (.seq (.seq (.reg [⟨(some 20), none, (.mov (.t 8))⟩, ⟨(some 21), none, (.mov (.t 0))⟩, ⟨(some 22), none, (.len (.t 21))⟩, ⟨(some 23), none, (.bin false .lss (.t 20) (.t 22))⟩]) (.cond (.t 23) .skip (.exit 2))) (.seq (.block 3 (.seq (.reg [⟨(some 26), none, (.mov (.t 0))⟩, ⟨(some 27), none, (.mov (.t 8))⟩, ⟨(some 28), none, (.idx 1 (.t 26) (.t 27))⟩, ⟨(some 29), none, (.ld none (.int .i64 0) (.t 28))⟩, ⟨(some 30), none, (.mov (.t 1))⟩, ⟨(some 31), none, (.mov (.t 7))⟩, ⟨(some 32), none, (.bin false .sub (.t 30) (.t 31))⟩, ⟨(some 33), none, (.bin false .and (.t 29) (.t 32))⟩, ⟨(some 34), none, (.mov (.t 1))⟩, ⟨(some 35), none, (.mov (.t 7))⟩, ⟨(some 36), none, (.bin false .sub (.t 34) (.t 35))⟩, ⟨(some 37), none, (.bin false .eql (.t 33) (.t 36))⟩]) (.cond (.t 37) (.reg [⟨(some 38), none, (.mov (.t 5))⟩, ⟨(some 39), none, (.mov (.t 7))⟩, ⟨(some 40), none, (.bin false .or (.t 38) (.t 39))⟩, ⟨(some 5), none, (.mov (.t 40))⟩]) .skip))) (.reg [⟨(some 24), none, (.mov (.t 8))⟩, ⟨(some 25), none, (.bin false .add (.t 24) (.c (.int .i64 1)))⟩, ⟨(some 8), none, (.mov (.t 25))⟩])))
def sc_s_l19New_L0 : SC := (.seq (.seq (.reg [⟨(some 9), none, (.mov (.t 6))⟩, ⟨(some 10), none, (.bin false .lss (.t 9) (.c (.int .i64 6)))⟩]) (.cond (.t 10) .skip (.exit 0))) (.seq (.block 1 (.seq (.reg [⟨(some 13), none, (.mov (.t 6))⟩, ⟨(some 14), none, (.conv .u64 (.t 13))⟩, ⟨(some 15), none, (.bin false .shl (.c (.int .i64 1)) (.t 14))⟩, ⟨(some 7), none, (.mov (.t 15))⟩]) (.seq (.seq (.reg [⟨(some 16), none, (.mov (.t 1))⟩, ⟨(some 17), none, (.mov (.t 7))⟩, ⟨(some 18), none, (.bin false .and (.t 16) (.t 17))⟩, ⟨(some 19), none, (.bin false .eql (.t 18) (.c (.int .i64 0)))⟩]) (.cond (.t 19) (.exit 1) .skip)) (.seq (.reg [⟨(some 8), none, (.mov (.c (.int .i64 0)))⟩]) (.block 2 (.loop sc_s_l19New_L2)))))) (.reg [⟨(some 11), none, (.mov (.t 6))⟩, ⟨(some 12), none, (.bin false .add (.t 11) (.c (.int .i64 1)))⟩, ⟨(some 6), none, (.mov (.t 12))⟩])))
def sc_s_l19New : SC := (.seq (.reg [⟨(some 4), none, (.mov (.c (.int .i64 0)))⟩]) (.seq (.reg [⟨(some 5), none, (.mov (.c (.int .i64 0)))⟩]) (.seq (.seq (.reg [⟨(some 6), none, (.mov (.c (.int .i64 0)))⟩]) (.block 0 (.loop sc_s_l19New_L0))) (.seq (.reg [⟨(some 41), none, (.mov (.t 5))⟩, ⟨(some 4), none, (.mov (.t 41))⟩]) .ret))))
theorem code_s_l19New : fnCode Try.prog [] 154 = some (42, sc_s_l19New, [(4, none)]) := by kernel_rfl
open Classical in
noncomputable def dec (p : Prop) : Bool := decide p
theorem dec_true {p : Prop} (h : p) : dec p = true := by simp [dec, h]
theorem dec_false {p : Prop} (h : ¬ p) : dec p = false := by simp [dec, h]
theorem dec_iff {p : Prop} : dec p = true ↔ p := by simp [dec]
open Classical in
noncomputable def curI (l : List Int) (s : Int) (i : Nat) (o : Int) (k : Nat) : Int := if ∃ j, j < k ∧ band (at0 l j) (s - 2 ^ i) = s - 2 ^ i then bor o (2 ^ i) else o
theorem curI_hit {l : List Int} {s : Int} {i : Nat} {o : Int} {k : Nat} (h : band (at0 l k) (s - 2 ^ i) = s - 2 ^ i) (ho : isS o) (hi : i < 6) : bor (curI l s i o k) (2 ^ i) = curI l s i o (k + 1) := by
  have e : curI l s i o (k + 1) = bor o (2 ^ i) := by
    unfold curI
    rw [if_pos ⟨k, by omega, h⟩]
  rw [e]
  unfold curI
  split
  · exact bor_again ho hi
  · rfl
theorem curI_miss {l : List Int} {s : Int} {i : Nat} {o : Int} {k : Nat} (h : ¬ band (at0 l k) (s - 2 ^ i) = s - 2 ^ i) : curI l s i o (k + 1) = curI l s i o k := by
  have e : (∃ j, j < k + 1 ∧ band (at0 l j) (s - 2 ^ i) = s - 2 ^ i) ↔ ∃ j, j < k ∧ band (at0 l j) (s - 2 ^ i) = s - 2 ^ i := by
    constructor
    · rintro ⟨j, h1, h2⟩
      rcases Nat.lt_succ_iff_lt_or_eq.1 h1 with h3 | rfl
      · exact ⟨j, h3, h2⟩
      · exact absurd h2 h
    · rintro ⟨j, h1, h2⟩
      exact ⟨j, by omega, h2⟩
  unfold curI
  simp only [e]
theorem curI_new {l : List Int} {s : Int} {i : Nat} (ht : tb s i) : curI l s i (newI l s i) l.length = newI l s (i + 1) := by
  have e : (∃ j, j < l.length ∧ band (at0 l j) (s - 2 ^ i) = s - 2 ^ i) ↔ ridge l s i := by
    constructor
    · rintro ⟨j, h1, h2⟩
      exact ⟨ht, _, getD_mem' h1, h2⟩
    · rintro ⟨_, g, h1, h2⟩
      obtain ⟨j, h3, rfl⟩ := getD_mem_iff.1 h1
      exact ⟨j, h3, h2⟩
  unfold curI
  simp only [newI]
  by_cases hr : ridge l s i
  · rw [if_pos hr, if_pos (e.2 hr)]
  · rw [if_neg hr, if_neg fun h => hr (e.1 h)]
open Classical in
noncomputable def F_s_l19New : List V → Option V := F2 dL dI fun l s => if allS l ∧ isS s then some (.int .i64 (newI l s 6)) else none
theorem fn_s_l19New : FnOk Try.prog 154 F_s_l19New := by
  refine fn_ok code_s_l19New mixed envNil_ok ?_
  intro args r h hb
  obtain ⟨_, _, l, s, rfl, h1, h2, h4⟩ := F2_inv h
  cases dL_inv h1
  cases dI_inv h2
  simp only [Option.ite_none_right_eq_some, Option.some.injEq] at h4
  obtain ⟨⟨hl, hs⟩, rfl⟩ := h4
  have hlen := bnd_ints (hb _ (List.mem_cons_self ..))
  refine ⟨by simp, fun w0 U0 L0 N0 => ?_⟩
  have inner : ∀ (i : Nat) (o : Int) (Q : Post) (L : Tm), i < 6 → isS o → tb s i → subE L [(8, .int .i64 0), (0, .list 1 (ints l)), (1, .int .i64 s), (5, .int .i64 o), (6, .int .i64 (i : Int)), (7, .int .i64 (2 ^ i))] →
      Q (.exit 2) [(0, .list 1 (ints l)), (1, .int .i64 s), (5, .int .i64 (curI l s i o l.length)), (6, .int .i64 (i : Int))] ([], 0) → LoopI ⟨Try.prog, w0, U0, L0, N0, 0, 42⟩ [] sc_s_l19New_L2 Q L ([], 0) := by
    intro i o Q L hi ho ht hsub q1
    have hw : IntKind.i64.wrap (s - 2 ^ i) = s - 2 ^ i := by
      have := sub_pow hs hi ht
      exact wrapI _ (by have := this.1; omega) (by have := this.2; omega)
    refine loopQ envNil_ok mixed (fun k : Nat => [(8, .int .i64 (k : Int)), (0, .list 1 (ints l)), (1, .int .i64 s), (5, .int .i64 (curI l s i o k)), (6, .int .i64 (i : Int)), (7, .int .i64 (2 ^ i))]) (fun _ => ([], 0)) (fun k => k ≤ l.length) (fun k => l.length - k) 0 (by simp)
      (SubI.slots rfl (by simpa [curI] using hsub)) ?_
    intro k hk
    by_cases hlt : k < l.length
    · by_cases hit : band (at0 l k) (s - 2 ^ i) = s - 2 ^ i
      · simp -implicitDefEqProofs [sc_s_l19New_L2, hlt, hw, hit]
        refine ⟨by omega, Again.of (k + 1) (by omega) (by omega) (SubI.slots rfl ?_)⟩
        have := curI_hit hit ho hi
        simp (disch := omega) [wrapI, ← this]
      · simp -implicitDefEqProofs [sc_s_l19New_L2, hlt, hw, hit]
        refine ⟨by omega, Again.of (k + 1) (by omega) (by omega) (SubI.slots rfl ?_)⟩
        simp (disch := omega) [wrapI, curI_miss hit]
    · have : k = l.length := by omega
      subst this
      simp -implicitDefEqProofs [sc_s_l19New_L2]
      exact SubQ.of (SubI.slots rfl (by simp)) q1
  simp -implicitDefEqProofs [sc_s_l19New]
  refine loopI envNil_ok mixed (fun i : Nat => [(0, .list 1 (ints l)), (1, .int .i64 s), (5, .int .i64 (newI l s i)), (6, .int .i64 (i : Int))]) (fun _ => ([], 0)) (fun i => i ≤ 6) (fun i => 6 - i) 0 (by simp) (SubI.slots rfl (by simp [newI])) ?_
  intro i hi
  by_cases h6 : i < 6
  · have hu : IntKind.u64.wrap (i : Int) = i := wrapU _ (by omega) (by omega)
    have hsh : IntKind.i64.wrap (2 ^ min i IntKind.i64.bits) = 2 ^ i := by
      have : ∀ i : Nat, i < 6 → IntKind.i64.wrap (2 ^ min i IntKind.i64.bits) = 2 ^ i := by decide +kernel
      exact this i h6
    have h6' : (i : Int) < 6 := by omega
    by_cases ht : band s (2 ^ i) = 0
    · simp -implicitDefEqProofs [sc_s_l19New_L0, h6', hu, hsh, ht]
      have e : newI l s (i + 1) = newI l s i := by
        simp only [newI]
        rw [if_neg]
        exact fun hr => hr.1 ht
      exact Again.of (i + 1) (by omega) (by omega) (SubI.slots rfl (by simp (disch := omega) [wrapI, e]))
    · simp -implicitDefEqProofs [sc_s_l19New_L0, h6', hu, hsh, ht]
      refine inner i _ _ _ h6 (newI_isS l s i (by omega)) ht (by simp) ?_
      simp -implicitDefEqProofs
      refine Again.of (i + 1) (by omega) (by omega) (SubI.slots rfl ?_)
      simp (disch := omega) [wrapI, curI_new ht]
  · have : i = 6 := by omega
    subst this
    simp -implicitDefEqProofs [sc_s_l19New_L0]
def sc_s_l19Fits_L0 : SC := (.seq (.seq (.reg [⟨(some 13), none, (.mov (.t 6))⟩, ⟨(some 14), none, (.mov (.t 0))⟩, ⟨(some 15), none, (.len (.t 14))⟩, ⟨(some 16), none, (.bin false .lss (.t 13) (.t 15))⟩]) (.cond (.t 16) .skip (.exit 0))) (.seq (.block 1 (.seq (.reg [⟨(some 19), none, (.mov (.t 0))⟩, ⟨(some 20), none, (.mov (.t 6))⟩, ⟨(some 21), none, (.idx 1 (.t 19) (.t 20))⟩, ⟨(some 22), none, (.ld none (.int .i64 0) (.t 21))⟩, ⟨(some 23), none, (.mov (.t 1))⟩, ⟨(some 24), none, (.bin false .and (.t 22) (.t 23))⟩, ⟨(some 25), none, (.mov (.t 5))⟩, ⟨(some 26), none, (.bin false .and (.t 24) (.t 25))⟩, ⟨(some 27), none, (.mov (.t 5))⟩, ⟨(some 28), none, (.bin false .eql (.t 26) (.t 27))⟩]) (.cond (.t 28) (.seq (.reg [⟨(some 4), none, (.mov (.c (.bool false)))⟩]) .ret) .skip))) (.reg [⟨(some 17), none, (.mov (.t 6))⟩, ⟨(some 18), none, (.bin false .add (.t 17) (.c (.int .i64 1)))⟩, ⟨(some 6), none, (.mov (.t 18))⟩])))
def sc_s_l19Fits : SC := (.seq (.reg [⟨(some 4), none, (.mov (.c (.bool false)))⟩]) (.seq (.seq (.reg [⟨(some 7), none, (.mov (.t 0))⟩, ⟨(some 8), none, (.len (.t 7))⟩, ⟨(some 9), none, (.bin false .eql (.t 8) (.c (.int .i64 0)))⟩]) (.cond (.t 9) (.seq (.reg [⟨(some 4), none, (.mov (.c (.bool true)))⟩]) .ret) .skip)) (.seq (.reg [⟨(some 10), none, (.mov (.t 0))⟩, ⟨(some 11), none, (.mov (.t 1))⟩, ⟨(some 12), none, (.call 154 [(.t 10), (.t 11)])⟩, ⟨(some 5), none, (.mov (.t 12))⟩]) (.seq (.seq (.reg [⟨(some 6), none, (.mov (.c (.int .i64 0)))⟩]) (.block 0 (.loop sc_s_l19Fits_L0))) (.seq (.reg [⟨(some 4), none, (.mov (.c (.bool true)))⟩]) .ret)))))
theorem code_s_l19Fits : fnCode Try.prog [] 153 = some (29, sc_s_l19Fits, [(4, none)]) := by kernel_rfl
open Classical in
noncomputable def F_s_l19Fits : List V → Option V := F2 dL dI fun l s => if allS l ∧ isS s then some (.bool (dec (fitsS l s))) else none
theorem fn_s_l19Fits : FnOk Try.prog 153 F_s_l19Fits := by
  have env := (envNil_ok (P := Try.prog)).add fn_s_l19New
  refine fn_ok code_s_l19Fits mixed env ?_
  intro args r h hb
  obtain ⟨_, _, l, s, rfl, h1, h2, h4⟩ := F2_inv h
  cases dL_inv h1
  cases dI_inv h2
  simp only [Option.ite_none_right_eq_some, Option.some.injEq] at h4
  obtain ⟨⟨hl, hs⟩, rfl⟩ := h4
  have hlen := bnd_ints (hb _ (List.mem_cons_self ..))
  refine ⟨by simp, fun w0 U0 L0 N0 => ?_⟩
  generalize hv : dec (fitsS l s) = v
  by_cases h0 : l.length = 0
  · have : l = [] := List.eq_nil_of_length_eq_zero h0
    have hv1 : v = true := by rw [← hv]; exact dec_true (.inl this)
    simp -implicitDefEqProofs [sc_s_l19Fits, h0, hv1]
  · simp -implicitDefEqProofs [sc_s_l19Fits, F_s_l19New, hl, hs, h0]
    refine loopI env mixed (fun k : Nat => [(0, .list 1 (ints l)), (1, .int .i64 s), (5, .int .i64 (newI l s 6)), (6, .int .i64 (k : Int))]) (fun _ => ([], 0)) (fun k => k ≤ l.length ∧ ∀ j, j < k → band (band (at0 l j) s) (newI l s 6) ≠ newI l s 6) (fun k => l.length - k) 0 (by simp) (SubI.slots rfl (by simp)) ?_
    rintro k ⟨hk, hn⟩
    by_cases hlt : k < l.length
    · by_cases he : band (band (at0 l k) s) (newI l s 6) = newI l s 6
      · have hv1 : v = false := by
          rw [← hv]
          refine dec_false ?_
          rintro (rfl | hf)
          · simp at h0
          · exact hf _ (getD_mem' hlt) he
        simp -implicitDefEqProofs [sc_s_l19Fits_L0, hlt, he, hv1]
        omega
      · simp -implicitDefEqProofs [sc_s_l19Fits_L0, hlt, he]
        refine ⟨by omega, Again.of (k + 1) ⟨by omega, fun j hj => ?_⟩ (by omega) (SubI.slots rfl (by simp (disch := omega) [wrapI]))⟩
        rcases Nat.lt_succ_iff_lt_or_eq.1 hj with h1 | rfl
        · exact hn j h1
        · exact he
    · have hv1 : v = true := by
        rw [← hv]
        refine dec_true (.inr fun g hg => ?_)
        obtain ⟨j, hj, rfl⟩ := getD_mem_iff.1 hg
        exact hn j (by omega)
      simp -implicitDefEqProofs [sc_s_l19Fits_L0, hlt, hv1]
end Go.Proofs.Ytmemomfffehnkaa
namespace Go.Proofs.Ytmemomfffehnkaa
open Go Go.RowKit
set_option maxRecDepth 1000000
set_option linter.unusedSimpArgs false
set_option linter.unusedVariables false
set_option maxHeartbeats 1000000
theorem before_trans {a b c : Int} (h1 : before a b = true) (h2 : before b c = true) : before a c = true := by
  simp only [before, decide_eq_true_eq] at *
  omega
theorem before_chain {l : List Int} (h : ∀ k, k < l.length → 0 < k → before (at0 l (k - 1)) (at0 l k) = true) : ∀ (d i : Nat), i + d + 1 < l.length → before (at0 l i) (at0 l (i + d + 1)) = true := by
  intro d
  induction d with
  | zero => intro i hi; exact h (i + 1) hi (by omega)
  | succ d ih =>
    intro i hi
    exact before_trans (ih i (by omega)) (h (i + (d + 1) + 1) hi (by omega))
theorem cplx_before {n : Int} {l : List Int} (h : cplx n l) {i j : Nat} (hij : i < j) (hj : j < l.length) : before (at0 l i) (at0 l j) = true := by
  have := before_chain (fun k hk h0 => (h.2.2 k hk).2.1 h0) (j - i - 1) i (by omega)
  rwa [show i + (j - i - 1) + 1 = j by omega] at this
theorem before_apart {a b : Int} (ha : isS a) (hb : isS b) (h : before b a = true) : bnot a b ≠ 0 := by
  obtain ⟨x, hx, rfl⟩ := isS_nat0 ha
  obtain ⟨y, hy, rfl⟩ := isS_nat0 hb
  have key : ∀ x : Nat, x < 64 → ∀ y : Nat, y < 64 → (x - (x &&& y) != 0 || !(decide (pcF 6 y < pcF 6 x) || (pcF 6 y == pcF 6 x && decide (y < x)))) = true := by decide +kernel
  have k := key x hx y hy
  rw [bnot_nat0 x y hx hy]
  simp only [before, decide_eq_true_eq, sz, Int.toNat_natCast, pc6 x hx, pc6 y hy] at h
  simp only [Bool.or_eq_true, bne_iff_ne, Bool.not_eq_true', Bool.or_eq_false_iff, decide_eq_false_iff_not, Bool.and_eq_false_iff, beq_eq_false_iff_ne] at k
  omega
theorem cplx_isS {n : Int} {l : List Int} (h : cplx n l) : allS l := by
  intro x hx
  obtain ⟨j, hj, rfl⟩ := getD_mem_iff.1 hx
  exact isSet_pos (h.2.2 j hj).1
theorem cplx_apart {n : Int} {l : List Int} (h : cplx n l) {a b : Int} (ha : a ∈ l) (hb : b ∈ l) (hab : a ≠ b) : bnot a b ≠ 0 := by
  have h1 := cplx_isS h a ha
  have h2 := cplx_isS h b hb
  obtain ⟨i, hi, rfl⟩ := getD_mem_iff.1 ha
  obtain ⟨j, hj, rfl⟩ := getD_mem_iff.1 hb
  have hne : i ≠ j := fun e => hab (by rw [e])
  rcases Nat.lt_or_gt_of_ne hne with h3 | h3
  · rw [Ne, bnot_zero2 h1 h2]
    exact (h.2.2 j hj).2.2 i h3
  · exact before_apart h1 h2 (cplx_before h h3 hi)
end Go.Proofs.Ytmemomfffehnkaa
namespace Go.Proofs.Ytmemomfffehnkaa
open Go Go.RowKit
set_option maxRecDepth 1000000
set_option linter.unusedSimpArgs false
set_option linter.unusedVariables false
set_option maxHeartbeats 1000000
def sc_s_IsPure_L0 : SC := (.seq (.seq (.reg [⟨(some 4), none, (.mov (.t 3))⟩, ⟨(some 5), none, (.fad 1 (.t 1))⟩, ⟨(some 6), none, (.ld none .nil (.t 5))⟩, ⟨(some 7), none, (.len (.t 6))⟩, ⟨(some 8), none, (.bin false .lss (.t 4) (.t 7))⟩]) (.cond (.t 8) .skip (.exit 0))) (.seq (.block 1 (.seq (.dreg [⟨⟨(some 11), none, (.fad 1 (.t 1))⟩, false, false⟩, ⟨⟨(some 12), none, (.ld none .nil (.t 11))⟩, false, false⟩, ⟨⟨(some 13), none, (.mov (.t 3))⟩, false, false⟩, ⟨⟨(some 14), none, (.idx 1 (.t 12) (.t 13))⟩, false, false⟩, ⟨⟨(some 15), none, (.ld none (.int .i64 0) (.t 14))⟩, false, false⟩, ⟨⟨(some 16), none, (.call 156 [(.t 15)])⟩, false, false⟩, ⟨⟨(some 17), none, (.fad 1 (.t 1))⟩, false, false⟩, ⟨⟨(some 18), none, (.ld none .nil (.t 17))⟩, false, false⟩, ⟨⟨(some 19), none, (.idx 1 (.t 18) (.c (.int .i64 0)))⟩, false, false⟩, ⟨⟨(some 20), none, (.ld none (.int .i64 0) (.t 19))⟩, false, false⟩, ⟨⟨(some 21), none, (.call 156 [(.t 20)])⟩, false, false⟩, ⟨⟨(some 22), none, (.bin false .neq (.t 16) (.t 21))⟩, false, false⟩]) (.cond (.t 22) (.seq (.reg [⟨(some 2), none, (.mov (.c (.bool false)))⟩]) .ret) .skip))) (.reg [⟨(some 9), none, (.mov (.t 3))⟩, ⟨(some 10), none, (.bin false .add (.t 9) (.c (.int .i64 1)))⟩, ⟨(some 3), none, (.mov (.t 10))⟩])))
def sc_s_IsPure : SC := (.seq (.reg [⟨(some 1), none, (.box (.t 0))⟩, ⟨(some 2), none, (.mov (.c (.bool false)))⟩]) (.seq (.seq (.reg [⟨(some 3), none, (.mov (.c (.int .i64 1)))⟩]) (.block 0 (.loop sc_s_IsPure_L0))) (.seq (.reg [⟨(some 23), none, (.ld (some 2) .undef (.t 1))⟩, ⟨(some 24), none, (.call 24 [(.t 23)])⟩, ⟨(some 2), none, (.mov (.t 24))⟩]) .ret)))
theorem code_s_IsPure : fnCode Try.prog [] 41 = some (25, sc_s_IsPure, [(2, none)]) := by kernel_rfl
def allR (l : List Int) : Prop := ∀ x ∈ l, inR x
theorem allR_at {l : List Int} (h : allR l) {j : Nat} (hj : j < l.length) : at0 l j < 9223372036854775808 := (h _ (getD_mem' hj)).2
noncomputable def pureB (n : Int) (l : List Int) : Bool := dec (cplx n l ∧ ∀ k, k < l.length → sz (at0 l k) = sz (at0 l 0))
theorem pureB_not {n : Int} {l : List Int} {k : Nat} (hk : k < l.length) (h : sz (at0 l k) ≠ sz (at0 l 0)) : pureB n l = false := dec_false fun hp => h (hp.2 k hk)
theorem pureB_of {n : Int} {l : List Int} (h : ∀ k, k < l.length → sz (at0 l k) = sz (at0 l 0)) : pureB n l = cplxB n l := by
  rw [Bool.eq_iff_iff, cplxB_iff]
  exact dec_iff.trans ⟨fun a => a.1, fun a => ⟨a, h⟩⟩
open Classical in
noncomputable def F_s_IsPure : List V → Option V := F1 dC fun c => if allR c.2 then some (.bool (pureB c.1 c.2)) else none
theorem fn_s_IsPure : FnOk Try.prog 41 F_s_IsPure := by
  have env := ((envNil_ok (P := Try.prog)).add fn_s_l2Size).add fn_s_IsComplex
  refine fn_ok code_s_IsPure mixed env ?_
  intro args r h hb
  obtain ⟨_, ⟨n, l⟩, rfl, h1, h4⟩ := F1_inv h
  cases dC_inv h1
  simp only [Option.ite_none_right_eq_some, Option.some.injEq] at h4
  obtain ⟨hR, rfl⟩ := h4
  have hlen := bnd_eC (hb _ (List.mem_cons_self ..))
  simp only at hlen
  refine ⟨by simp, fun w0 U0 L0 N0 => ?_⟩
  generalize hv : pureB n l = v
  simp -implicitDefEqProofs [sc_s_IsPure]
  refine loopI env mixed (fun k : Nat => [(1, .pt 0 0), (3, .int .i64 (k : Int))]) (fun _ => ([(0, [.int .i64 n, .list 1 (ints l)])], 1)) (fun k => (k ≤ l.length ∨ k = 1) ∧ ∀ j, j < k → j < l.length → sz (at0 l j) = sz (at0 l 0)) (fun k => l.length - k) 1
    ⟨.inr rfl, fun j hj _ => by rw [show j = 0 by omega]⟩ (SubI.slots rfl (by simp)) ?_
  rintro k ⟨hk, hn⟩
  by_cases hlt : k < l.length
  · have r1 := allR_at hR hlt
    have r0 := allR_at hR (show 0 < l.length by omega)
    by_cases he : sz (at0 l k) = sz (at0 l 0)
    · simp -implicitDefEqProofs [sc_s_IsPure_L0, F_s_l2Size, hlt, r0, r1, he]
      repeat' (first | omega | apply And.intro | intro _)
      refine Again.of (k + 1) ⟨by omega, fun j hj h2 => ?_⟩ (by omega) (SubI.slots rfl (by simp (disch := omega) [wrapI]))
      rcases Nat.lt_succ_iff_lt_or_eq.1 hj with h1 | rfl
      · exact hn j h1 h2
      · exact he
    · have hv1 : v = false := hv ▸ pureB_not hlt he
      simp -implicitDefEqProofs [sc_s_IsPure_L0, F_s_l2Size, hlt, r0, r1, he, hv1]
      omega
  · have hv1 : cplxB n l = v := by rw [← hv, pureB_of fun j hj => hn j (by omega) hj]
    simp -implicitDefEqProofs [sc_s_IsPure_L0, F_s_IsComplex, hlt, hv1]
end Go.Proofs.Ytmemomfffehnkaa
namespace Go.Proofs.Ytmemomfffehnkaa
open Go Go.RowKit
set_option maxRecDepth 1000000
set_option linter.unusedSimpArgs false
set_option linter.unusedVariables false
set_option maxHeartbeats 1000000
def sc_i_hasSet : SC := (.seq (.reg [⟨(some 4), none, (.mov (.c (.bool false)))⟩]) (.seq (.reg [⟨(some 5), none, (.mov (.t 0))⟩, ⟨(some 6), none, (.mov (.t 1))⟩, ⟨(some 7), none, (.conv .u64 (.t 6))⟩, ⟨(some 8), none, (.bin false .shr (.t 5) (.t 7))⟩, ⟨(some 9), none, (.bin false .and (.t 8) (.c (.int .u64 1)))⟩, ⟨(some 10), none, (.bin false .eql (.t 9) (.c (.int .u64 1)))⟩, ⟨(some 4), none, (.mov (.t 10))⟩]) .ret))
theorem code_i_hasSet : fnCode Try.prog [] 182 = some (11, sc_i_hasSet, [(4, none)]) := by kernel_rfl
def dU : V → Option Int
  | .int .u64 n => some n
  | _ => none
@[simp] theorem dU_int (n : Int) : dU (.int .u64 n) = some n := rfl
theorem dU_inv {v : V} {n : Int} (h : dU v = some n) : v = .int .u64 n := by
  unfold dU at h
  split at h
  · injection h with h; rw [h]
  · simp at h
noncomputable def hasG (f s : Int) : Option V := @ite _ (0 ≤ f ∧ f < 18446744073709551616 ∧ 0 ≤ s ∧ s < 64) (Classical.propDecidable _) (some (.bool (f.toNat.testBit s.toNat))) none
noncomputable def F_i_hasSet : List V → Option V := F2 dU dI hasG
theorem fn_i_hasSet : FnOk Try.prog 182 F_i_hasSet := by
  refine fn_ok code_i_hasSet mixed envNil_ok ?_
  intro args r h hb
  obtain ⟨_, _, f, s, rfl, h1, h2, h4⟩ := F2_inv h
  cases dU_inv h1
  cases dI_inv h2
  clear h
  simp only [hasG, Option.ite_none_right_eq_some, Option.some.injEq] at h4
  obtain ⟨⟨h1, h2, h3, h5⟩, rfl⟩ := h4
  refine ⟨by simp, fun w0 U0 L0 N0 => ?_⟩
  obtain ⟨m, rfl⟩ : ∃ m : Nat, f = m := ⟨f.toNat, by omega⟩
  obtain ⟨k, rfl⟩ : ∃ k : Nat, s = k := ⟨s.toNat, by omega⟩
  have hu : IntKind.u64.wrap (k : Int) = k := wrapU _ (by omega) (by omega)
  have hm : min k IntKind.u64.bits = k := by simp only [IntKind.bits]; omega
  have hd : (m : Int).fdiv (2 ^ k) = ((m / 2 ^ k : Nat) : Int) := by
    rw [Int.fdiv_eq_ediv_of_nonneg _ (by have := Int.natCast_nonneg (2 ^ k); simpa using this)]
    simp
  have hb : bitop .and .u64 (((m / 2 ^ k : Nat) : Int)) 1 = ((m / 2 ^ k % 2 : Nat) : Int) := by
    have hle : m / 2 ^ k ≤ m := Nat.div_le_self ..
    rw [show (1 : Int) = ((1 : Nat) : Int) from rfl, bitsU_and _ 1 (by omega) (by omega), Nat.and_one_is_mod]
  have ht : (((m / 2 ^ k % 2 : Nat) : Int) == 1) = m.testBit k := by
    rw [Nat.testBit_eq_decide_div_mod_eq]
    generalize m / 2 ^ k % 2 = x
    rw [Bool.eq_iff_iff, beq_iff_eq, decide_eq_true_iff]
    omega
  simp -implicitDefEqProofs [sc_i_hasSet, hu, hm, hd]
  have hq : (m : Int) / 2 ^ k = ((m / 2 ^ k : Nat) : Int) := by simp
  rw [hq, hb]
  exact ht
end Go.Proofs.Ytmemomfffehnkaa
namespace Go.Proofs.Ytmemomfffehnkaa
open Go Go.RowKit
set_option maxRecDepth 1000000
set_option linter.unusedSimpArgs false
set_option linter.unusedVariables false
set_option maxHeartbeats 1000000
theorem nodup_len {l : List Int} (h : l.Nodup) (hS : allS l) : l.length ≤ 64 := by
  have := sub_len (m := (List.range 64).map fun (k : Nat) => (k : Int)) h fun x hx => by
    refine List.mem_map.2 ⟨x.toNat, ?_, ?_⟩
    · have := hS x hx; rw [List.mem_range]; unfold isS at this; omega
    · exact Int.toNat_of_nonneg (hS x hx).1
  simpa using this
end Go.Proofs.Ytmemomfffehnkaa
namespace Go.Proofs.Ytmemomfffehnkaa
open Go Go.RowKit
set_option maxRecDepth 1000000
set_option linter.unusedSimpArgs false
set_option linter.unusedVariables false
set_option maxHeartbeats 1000000
/-- Families of sets as words of 64 bits. -/
theorem inS (k : Nat) (h : k < 64) : isS (k : Int) := by unfold isS; omega
theorem isS_nat {s : Int} (h : isS s) : ∃ k : Nat, k < 64 ∧ s = k := ⟨s.toNat, by unfold isS at h; omega, by unfold isS at h; omega⟩
open Classical in
noncomputable def famN (p : Int → Prop) : Nat → Nat
  | 0 => 0
  | k + 1 => if p (k : Int) then 2 ^ k + famN p k else famN p k
theorem famN_lt (p : Int → Prop) : ∀ k, famN p k < 2 ^ k
  | 0 => by simp [famN]
  | k + 1 => by
    have := famN_lt p k
    have h2 : 2 ^ (k + 1) = 2 ^ k + 2 ^ k := by rw [Nat.pow_succ]; omega
    simp only [famN]
    split <;> omega
theorem famN_bit (p : Int → Prop) : ∀ k j, (famN p k).testBit j = true ↔ (j < k ∧ p (j : Int))
  | 0, j => by simp [famN]
  | k + 1, j => by
    have ih := famN_bit p k j
    have hl := famN_lt p k
    simp only [famN]
    split
    · rename_i hp
      rcases Nat.lt_trichotomy j k with h | h | h
      · rw [Nat.testBit_two_pow_add_gt h, ih]
        constructor
        · rintro ⟨_, b⟩; exact ⟨by omega, b⟩
        · rintro ⟨_, b⟩; exact ⟨h, b⟩
      · subst h
        rw [Nat.testBit_two_pow_add_eq, Nat.testBit_lt_two_pow hl]
        simp [hp]
      · have h3 : 2 ^ k + famN p k < 2 ^ j := by
          have : 2 ^ (k + 1) ≤ 2 ^ j := Nat.pow_le_pow_right (by omega) h
          rw [Nat.pow_succ] at this
          omega
        rw [Nat.testBit_lt_two_pow h3]
        constructor
        · intro h; simp at h
        · rintro ⟨h4, _⟩; omega
    · rename_i hp
      rw [ih]
      constructor
      · rintro ⟨a, b⟩; exact ⟨by omega, b⟩
      · rintro ⟨a, b⟩
        rcases Nat.lt_succ_iff_lt_or_eq.1 a with h | rfl
        · exact ⟨h, b⟩
        · exact absurd b hp
theorem fam_ex (p : Int → Prop) : ∃ m : Nat, m < 18446744073709551616 ∧ ∀ k : Nat, m.testBit k = true ↔ (k < 64 ∧ p (k : Int)) := ⟨famN p 64, famN_lt p 64, famN_bit p 64⟩
/-- The number of a family; by choice, so that no checker unfolds it. -/
noncomputable def famW (p : Int → Prop) : Nat := Classical.choose (fam_ex p)
theorem famW_lt (p : Int → Prop) : famW p < 18446744073709551616 := (Classical.choose_spec (fam_ex p)).1
theorem famW_bit (p : Int → Prop) (k : Nat) : (famW p).testBit k = true ↔ (k < 64 ∧ p (k : Int)) := (Classical.choose_spec (fam_ex p)).2 k
theorem fam_exI (p : Int → Prop) : ∃ m : Int, m = (famW p : Nat) := ⟨_, rfl⟩
/-- By choice once more: a checker that sees a number without sign begins to count. -/
noncomputable def fam (p : Int → Prop) : Int := Classical.choose (fam_exI p)
theorem fam_eq (p : Int → Prop) : fam p = (famW p : Nat) := Classical.choose_spec (fam_exI p)
theorem fam_nn (p : Int → Prop) : 0 ≤ fam p := by rw [fam_eq]; omega
theorem fam_lt (p : Int → Prop) : fam p < 18446744073709551616 := by
  have := famW_lt p
  rw [fam_eq]
  omega
theorem fam_bit (p : Int → Prop) {s : Int} (hs : isS s) : (fam p).toNat.testBit s.toNat = dec (p s) := by
  obtain ⟨k, hk, rfl⟩ := isS_nat hs
  rw [Bool.eq_iff_iff, dec_iff]
  rw [fam_eq, Int.toNat_natCast, Int.toNat_natCast]
  rw [famW_bit]
  exact ⟨fun h => h.2, fun h => ⟨hk, h⟩⟩
theorem fam_ext {m : Nat} (hm : m < 18446744073709551616) {p : Int → Prop} (h : ∀ k : Nat, k < 64 → (m.testBit k = true ↔ p (k : Int))) : (m : Int) = fam p := by
  rw [fam_eq]
  congr 1
  apply Nat.eq_of_testBit_eq
  intro k
  rw [Bool.eq_iff_iff, famW_bit]
  by_cases hk : k < 64
  · rw [h k hk]
    exact ⟨fun a => ⟨hk, a⟩, fun a => a.2⟩
  · have h2 : m < 2 ^ k := Nat.lt_of_lt_of_le (show m < 2 ^ 64 from hm) (Nat.pow_le_pow_right (by omega) (by omega))
    rw [Nat.testBit_lt_two_pow h2]
    constructor
    · intro h; simp at h
    · rintro ⟨h4, _⟩; omega
theorem fam_congr {p q : Int → Prop} (h : ∀ s, isS s → (p s ↔ q s)) : fam p = fam q :=
  (fam_eq p).trans <| fam_ext (famW_lt p) fun k hk => by rw [famW_bit, ← h _ (inS k hk)]; exact ⟨fun a => a.2, fun a => ⟨hk, a⟩⟩
theorem fam_inj {p q : Int → Prop} : fam p = fam q ↔ ∀ s, isS s → (p s ↔ q s) := by
  refine ⟨fun h s hs => ?_, fam_congr⟩
  have h1 := fam_bit p hs
  rw [h, fam_bit q hs] at h1
  exact ⟨fun h => dec_iff.1 (h1 ▸ dec_true h), fun h => dec_iff.1 (h1 ▸ dec_true h)⟩
theorem fam_none : fam (fun _ => False) = 0 := (fam_ext (m := 0) (by omega) fun k _ => by simp).symm
theorem fam_zero {p : Int → Prop} : fam p = 0 ↔ ∀ s, isS s → ¬ p s := by
  rw [← fam_none, fam_inj]
  exact ⟨fun h s hs hp => (h s hs).1 hp, fun h s hs => ⟨h s hs, False.elim⟩⟩
@[simp] theorem fam_or (p q : Int → Prop) : bitop .or .u64 (fam p) (fam q) = fam fun s => p s ∨ q s := by
  rw [fam_eq, fam_eq, bitsU_or _ _ (famW_lt p) (famW_lt q)]
  refine fam_ext (Nat.or_lt_two_pow (n := 64) (famW_lt p) (famW_lt q)) fun k hk => ?_
  rw [Nat.testBit_or, Bool.or_eq_true, famW_bit, famW_bit]
  simp [hk]
@[simp] theorem fam_and (p q : Int → Prop) : bitop .and .u64 (fam p) (fam q) = fam fun s => p s ∧ q s := by
  rw [fam_eq, fam_eq, bitsU_and _ _ (famW_lt p) (famW_lt q)]
  refine fam_ext (Nat.lt_of_le_of_lt Nat.and_le_left (famW_lt p)) fun k hk => ?_
  rw [Nat.testBit_and, Bool.and_eq_true, famW_bit, famW_bit]
  simp [hk]
theorem bitsU_not (a b : Nat) (ha : a < 18446744073709551616) (hb : b < 18446744073709551616) : bitop .andNot .u64 (a : Int) (b : Int) = ((a &&& (2 ^ 64 - 1 - b) : Nat) : Int) := by
  have e : bitop .andNot .u64 (a : Int) (b : Int) = IntKind.u64.wrap ((BitVec.ofInt 64 (a : Int) &&& ~~~ BitVec.ofInt 64 (b : Int)).toNat) := rfl
  have h1 : a &&& (2 ^ 64 - 1 - b) ≤ a := Nat.and_le_left
  rw [e, BitVec.ofInt_natCast, BitVec.ofInt_natCast, BitVec.toNat_and, BitVec.toNat_not, BitVec.toNat_ofNat, BitVec.toNat_ofNat]
  rw [Nat.mod_eq_of_lt (by omega), Nat.mod_eq_of_lt (by omega)]
  exact wrapU _ (by omega) (by omega)
@[simp] theorem fam_not (p q : Int → Prop) : bitop .andNot .u64 (fam p) (fam q) = fam fun s => p s ∧ ¬ q s := by
  rw [fam_eq, fam_eq, bitsU_not _ _ (famW_lt p) (famW_lt q)]
  refine fam_ext (Nat.lt_of_le_of_lt Nat.and_le_left (famW_lt p)) fun k hk => ?_
  have h := famW_lt q
  rw [Nat.testBit_and, Bool.and_eq_true, famW_bit, show 2 ^ 64 - 1 - famW q = 2 ^ 64 - (famW q + 1) by omega, Nat.testBit_two_pow_sub_succ h]
  have := famW_bit q k
  cases hb : (famW q).testBit k with
  | false =>
    rw [hb] at this
    simp [hk] at this ⊢
    simp [this]
  | true =>
    rw [hb] at this
    simp [hk] at this ⊢
    simp [this]
/-- One set as a family. -/
theorem fam_one {s : Int} (hs : isS s) : IntKind.u64.wrap (2 ^ min s.toNat IntKind.u64.bits) = fam fun t => t = s := by
  obtain ⟨k, hk, rfl⟩ := isS_nat hs
  have h1 : min (k : Int).toNat IntKind.u64.bits = k := by simp only [IntKind.bits]; omega
  have h2 : 2 ^ k < 18446744073709551616 := Nat.pow_lt_pow_right (by omega) hk
  rw [h1]
  have h3 : ((2 : Int) ^ k) = ((2 ^ k : Nat) : Int) := by simp
  rw [h3, wrapU _ (Int.natCast_nonneg _) (by omega)]
  refine fam_ext h2 fun j hj => ?_
  rw [Nat.testBit_two_pow]
  simp
  omega
theorem wrapS {s : Int} (hs : isS s) : IntKind.u64.wrap s = s := wrapU _ hs.1 (by have := hs.2; omega)
/-- Is a set part of another. -/
def subS (a b : Int) : Prop := bnot a b = 0
theorem hasG_fam {p : Int → Prop} {s : Int} (hs : isS s) : hasG (fam p) s = some (.bool (dec (p s))) := by
  have h1 := fam_nn p
  have h2 := fam_lt p
  have h3 := hs.1
  have h4 := hs.2
  simp only [hasG, h1, h2, h3, h4, and_self, if_true, fam_bit p hs]
end Go.Proofs.Ytmemomfffehnkaa
namespace Go.Proofs.Ytmemomfffehnkaa
open Go Go.RowKit
set_option maxRecDepth 1000000
set_option linter.unusedSimpArgs false
set_option linter.unusedVariables false
set_option maxHeartbeats 1000000
/-- Sets below 64 as numbers: facts by trial, over numbers that are not below zero. -/
theorem band_nat (a b : Nat) (ha : a < 64) (hb : b < 64) : band a b = ((a &&& b : Nat) : Int) := bits_and a b (by omega) (by omega)
theorem bits_not (a b : Nat) (ha : a < 9223372036854775808) (hb : b < 9223372036854775808) : bitop .andNot .i64 (a : Int) (b : Int) = ((a &&& (2 ^ 64 - 1 - b) : Nat) : Int) := by
  have e : bitop .andNot .i64 (a : Int) (b : Int) = IntKind.i64.wrap ((BitVec.ofInt 64 (a : Int) &&& ~~~ BitVec.ofInt 64 (b : Int)).toNat) := rfl
  have h1 : a &&& (2 ^ 64 - 1 - b) ≤ a := Nat.and_le_left
  rw [e, BitVec.ofInt_natCast, BitVec.ofInt_natCast, BitVec.toNat_and, BitVec.toNat_not, BitVec.toNat_ofNat, BitVec.toNat_ofNat]
  rw [Nat.mod_eq_of_lt (by omega), Nat.mod_eq_of_lt (by omega)]
  exact wrapI _ (by omega) (by omega)
theorem bnot_nat (a b : Nat) (ha : a < 64) (hb : b < 64) : bnot a b = ((a - (a &&& b) : Nat) : Int) := by
  have key : ∀ a : Nat, a < 64 → ∀ b : Nat, b < 64 → a &&& (2 ^ 64 - 1 - b) = a - (a &&& b) := by decide +kernel
  rw [show bnot a b = _ from bits_not a b (by omega) (by omega), key a ha b hb]
theorem subS_nat (a b : Nat) (ha : a < 64) (hb : b < 64) : subS a b ↔ a &&& b = a := by
  unfold subS
  rw [bnot_nat a b ha hb]
  have : a &&& b ≤ a := Nat.and_le_left
  omega
theorem subS_iff {a b : Int} (ha : isS a) (hb : isS b) : subS a b ↔ band a b = a := by
  obtain ⟨x, hx, rfl⟩ := isS_nat ha
  obtain ⟨y, hy, rfl⟩ := isS_nat hb
  rw [subS_nat x y hx hy, band_nat x y hx hy]
  omega
theorem subS_iff' {a b : Int} (ha : isS a) (hb : isS b) : subS a b ↔ band b a = a := by
  obtain ⟨x, hx, rfl⟩ := isS_nat ha
  obtain ⟨y, hy, rfl⟩ := isS_nat hb
  rw [subS_nat x y hx hy, band_nat y x hy hx, Nat.and_comm]
  omega
theorem subS_bits {a b : Int} (ha : isS a) (hb : isS b) : subS a b ↔ ∀ i : Nat, a.toNat.testBit i = true → b.toNat.testBit i = true := by
  obtain ⟨x, hx, rfl⟩ := isS_nat ha
  obtain ⟨y, hy, rfl⟩ := isS_nat hb
  rw [subS_nat x y hx hy]
  simp only [Int.toNat_natCast]
  constructor
  · intro h i hi
    rw [← h, Nat.testBit_and, Bool.and_eq_true] at hi
    exact hi.2
  · intro h
    apply Nat.eq_of_testBit_eq
    intro i
    rw [Nat.testBit_and]
    cases hi : x.testBit i with
    | false => rfl
    | true => simp [h i hi]
theorem subS_refl {a : Int} (ha : isS a) : subS a a := (subS_bits ha ha).2 fun _ h => h
theorem subS_trans {a b c : Int} (ha : isS a) (hb : isS b) (hc : isS c) (h1 : subS a b) (h2 : subS b c) : subS a c :=
  (subS_bits ha hc).2 fun i h => (subS_bits hb hc).1 h2 i ((subS_bits ha hb).1 h1 i h)
theorem subS_le {a b : Int} (ha : isS a) (hb : isS b) (h : subS a b) : a ≤ b := by
  obtain ⟨x, hx, rfl⟩ := isS_nat ha
  obtain ⟨y, hy, rfl⟩ := isS_nat hb
  rw [subS_nat x y hx hy] at h
  have : x &&& y ≤ y := Nat.and_le_right
  omega
theorem subS_anti {a b : Int} (ha : isS a) (hb : isS b) (h : subS a b) (h2 : subS b a) : a = b := by
  have := subS_le ha hb h
  have := subS_le hb ha h2
  omega
theorem isS_zero : isS 0 := by unfold isS; omega
theorem subS_zero {a : Int} (ha : isS a) : subS 0 a := by
  obtain ⟨x, hx, rfl⟩ := isS_nat ha
  exact (subS_nat 0 x (by omega) hx).2 (by simp)
/-- The next part of s below t. -/
theorem sub_next {s t : Int} (hs : isS s) (ht : isS t) (hts : subS t s) (h0 : t ≠ 0) : isS (band (t - 1) s) ∧ subS (band (t - 1) s) s ∧ band (t - 1) s < t ∧ ∀ u, isS u → subS u s → u < t → u ≤ band (t - 1) s := by
  obtain ⟨x, hx, rfl⟩ := isS_nat hs
  obtain ⟨y, hy, rfl⟩ := isS_nat ht
  have hy0 : 0 < y := by omega
  rw [subS_nat y x hy hx] at hts
  have e : ((y : Int) - 1) = ((y - 1 : Nat) : Int) := by omega
  have hl : (y - 1) &&& x ≤ y - 1 := Nat.and_le_left
  rw [e, band_nat (y - 1) x (by omega) hx]
  refine ⟨inS _ (by omega), (subS_nat _ _ (by omega) hx).2 (by rw [Nat.and_assoc, Nat.and_self]), by omega, ?_⟩
  intro u hu hus hut
  obtain ⟨z, hz, rfl⟩ := isS_nat hu
  rw [subS_nat z x hz hx] at hus
  have key : ∀ x : Nat, x < 64 → ∀ y : Nat, y < 64 → (y &&& x != y || (List.range 64).all fun z => z &&& x != z || decide (y ≤ z) || decide (z ≤ (y - 1) &&& x)) = true := by decide +kernel
  have := key x hx y hy
  rw [Bool.or_eq_true, List.all_eq_true] at this
  rcases this with h | h
  · simp [hts] at h
  · have h := h z (List.mem_range.2 hz)
    simp only [hus, bne_self_eq_false, Bool.false_or, Bool.or_eq_true, decide_eq_true_eq] at h
    omega
/-- Faces. -/
def faceS (l : List Int) (s : Int) : Prop := ∃ f ∈ l, subS s f
theorem faceS_snoc {l : List Int} {f s : Int} : faceS (l ++ [f]) s ↔ faceS l s ∨ subS s f := by
  unfold faceS
  constructor
  · rintro ⟨g, h1, h2⟩
    rcases List.mem_append.1 h1 with h | h
    · exact .inl ⟨g, h, h2⟩
    · exact .inr (by simpa using (List.mem_singleton.1 h) ▸ h2)
  · rintro (⟨g, h1, h2⟩ | h)
    · exact ⟨g, by simp [h1], h2⟩
    · exact ⟨f, by simp, h⟩
theorem faceS_sub {l : List Int} (hl : allS l) {s t : Int} (hs : isS s) (ht : isS t) (h : subS s t) (hf : faceS l t) : faceS l s := by
  obtain ⟨f, h1, h2⟩ := hf
  exact ⟨f, h1, subS_trans hs ht (hl f h1) h h2⟩
open Classical in
/-- The sets below k with a property, from the least to the greatest number. -/
noncomputable def upS (p : Int → Prop) : Nat → List Int
  | 0 => []
  | k + 1 => if p (k : Int) then upS p k ++ [(k : Int)] else upS p k
theorem upS_pos {p : Int → Prop} {k : Nat} (h : p (k : Int)) : upS p (k + 1) = upS p k ++ [(k : Int)] := by simp only [upS, if_pos h]
theorem upS_neg {p : Int → Prop} {k : Nat} (h : ¬ p (k : Int)) : upS p (k + 1) = upS p k := by simp only [upS, if_neg h]
theorem mem_upS {p : Int → Prop} {s : Int} : ∀ {k : Nat}, s ∈ upS p k ↔ 0 ≤ s ∧ s < k ∧ p s := by
  intro k
  induction k with
  | zero => simp only [upS, List.not_mem_nil, false_iff]; omega
  | succ k ih =>
    by_cases h : p (k : Int)
    · rw [upS_pos h, List.mem_append, ih, List.mem_singleton]
      constructor
      · rintro (⟨a, b, c⟩ | rfl)
        · exact ⟨a, by omega, c⟩
        · exact ⟨by omega, by omega, h⟩
      · rintro ⟨a, b, c⟩
        by_cases e : s = (k : Int)
        · exact .inr e
        · exact .inl ⟨a, by omega, c⟩
    · rw [upS_neg h, ih]
      constructor
      · rintro ⟨a, b, c⟩; exact ⟨a, by omega, c⟩
      · rintro ⟨a, b, c⟩
        refine ⟨a, ?_, c⟩
        by_cases e : s = (k : Int)
        · exact absurd (e ▸ c) h
        · omega
theorem mem_upS64 {p : Int → Prop} {s : Int} : s ∈ upS p 64 ↔ isS s ∧ p s := by
  rw [mem_upS]
  unfold isS
  exact ⟨fun ⟨a, b, c⟩ => ⟨⟨a, b⟩, c⟩, fun ⟨⟨a, b⟩, c⟩ => ⟨a, b, c⟩⟩
theorem upS_len (p : Int → Prop) : ∀ k, (upS p k).length ≤ k
  | 0 => by simp [upS]
  | k + 1 => by
    have := upS_len p k
    simp only [upS]
    split <;> simp <;> omega
theorem upS_sorted {p : Int → Prop} : ∀ {k : Nat}, (upS p k).Pairwise (· < ·) := by
  intro k
  induction k with
  | zero => simp [upS]
  | succ k ih =>
    by_cases h : p (k : Int)
    · rw [upS_pos h, List.pairwise_append]
      refine ⟨ih, by simp, ?_⟩
      intro a ha b hb
      rw [mem_upS] at ha
      simp only [List.mem_singleton] at hb
      omega
    · rw [upS_neg h]; exact ih
/-- The sets with a property by size, those of less than z points. -/
noncomputable def ordS (p : Int → Prop) : Nat → List Int
  | 0 => []
  | z + 1 => ordS p z ++ upS (fun s => p s ∧ sz s = z) 64
theorem mem_ordS {p : Int → Prop} {s : Int} : ∀ {z : Nat}, s ∈ ordS p z ↔ isS s ∧ p s ∧ sz s < z := by
  intro z
  induction z with
  | zero => have := sz_nn s; simp only [ordS, List.not_mem_nil, false_iff]; omega
  | succ z ih =>
    rw [ordS, List.mem_append, ih, mem_upS64]
    constructor
    · rintro (⟨a, b, c⟩ | ⟨a, b, c⟩)
      · exact ⟨a, b, by omega⟩
      · exact ⟨a, b, by omega⟩
    · rintro ⟨a, b, c⟩
      by_cases e : sz s = (z : Int)
      · exact .inr ⟨a, b, e⟩
      · exact .inl ⟨a, b, by omega⟩
theorem sz_six {s : Int} (h : isS s) : sz s ≤ 6 := forS (p := fun s => sz s ≤ 6) (by decide +kernel) h
theorem ordS_len (p : Int → Prop) : ∀ z, (ordS p z).length ≤ 64 * z
  | 0 => by simp [ordS]
  | z + 1 => by
    have := ordS_len p z
    have := upS_len (fun s => p s ∧ sz s = z) 64
    simp only [ordS, List.length_append]
    omega
theorem allS_upS (p : Int → Prop) {k : Nat} (hk : k ≤ 64) : allS (upS p k) := fun x hx => by
  have := mem_upS.1 hx
  exact ⟨this.1, by omega⟩
theorem ordS_sorted {p : Int → Prop} : ∀ {z : Nat}, (ordS p z).Pairwise fun a b => before a b = true := by
  intro z
  induction z with
  | zero => simp [ordS]
  | succ z ih =>
    rw [ordS, List.pairwise_append]
    refine ⟨ih, ?_, ?_⟩
    · refine upS_sorted.imp_of_mem ?_
      intro a b ha hb hab
      have h1 := (mem_upS64.1 ha).2.2
      have h2 := (mem_upS64.1 hb).2.2
      simp only [before, decide_eq_true_eq]
      omega
    · intro a ha b hb
      have h1 := (mem_ordS.1 ha).2.2
      have h2 := (mem_upS64.1 hb).2.2
      simp only [before, decide_eq_true_eq]
      omega
/-- A sorted list is given by its members. -/
theorem sorted_ext {l m : List Int} (hl : l.Pairwise fun a b => before a b = true) (hm : m.Pairwise fun a b => before a b = true) (h : ∀ x, x ∈ l ↔ x ∈ m) : l = m := by
  have irr : ∀ a : Int, before a a = true → False := fun a h => by simp only [before, decide_eq_true_eq] at h; omega
  induction l generalizing m with
  | nil => cases m with
    | nil => rfl
    | cons b m => exact absurd ((h b).2 (by simp)) (by simp)
  | cons a l ih => cases m with
    | nil => exact absurd ((h a).1 (by simp)) (by simp)
    | cons b m =>
      rw [List.pairwise_cons] at hl hm
      have hab : a = b := by
        rcases List.mem_cons.1 ((h a).1 (by simp)) with e | e
        · exact e
        · rcases List.mem_cons.1 ((h b).2 (by simp)) with e2 | e2
          · exact e2.symm
          · exact (irr a (before_trans (hl.1 b e2) (hm.1 a e))).elim
      subst hab
      rw [ih hl.2 hm.2]
      intro x
      constructor
      · intro hx
        rcases List.mem_cons.1 ((h x).1 (by simp [hx])) with e | e
        · subst e; exact (irr _ (hl.1 _ hx)).elim
        · exact e
      · intro hx
        rcases List.mem_cons.1 ((h x).2 (by simp [hx])) with e | e
        · subst e; exact (irr _ (hm.1 _ hx)).elim
        · exact e
theorem sets_ex (p : Int → Prop) : ∃ l : List Int, (l.Pairwise fun a b => before a b = true) ∧ ∀ x, x ∈ l ↔ isS x ∧ p x :=
  ⟨ordS p 7, ordS_sorted, fun s => by
    rw [mem_ordS]
    constructor
    · rintro ⟨a, b, _⟩; exact ⟨a, b⟩
    · rintro ⟨a, b⟩; have := sz_six a; exact ⟨a, b, by omega⟩⟩
/-- All sets with a property, in order. -/
noncomputable def setsOf (p : Int → Prop) : List Int := Classical.choose (sets_ex p)
theorem setsOf_sorted (p : Int → Prop) : (setsOf p).Pairwise fun a b => before a b = true := (Classical.choose_spec (sets_ex p)).1
theorem mem_setsOf {p : Int → Prop} {s : Int} : s ∈ setsOf p ↔ isS s ∧ p s := (Classical.choose_spec (sets_ex p)).2 s
theorem setsOf_eq (p : Int → Prop) : ordS p 7 = setsOf p := sorted_ext ordS_sorted (setsOf_sorted p) fun s => by
  rw [mem_ordS, mem_setsOf]
  constructor
  · rintro ⟨a, b, _⟩; exact ⟨a, b⟩
  · rintro ⟨a, b⟩; have := sz_six a; exact ⟨a, b, by omega⟩
theorem setsOf_congr {p q : Int → Prop} (h : ∀ s, isS s → (p s ↔ q s)) : setsOf p = setsOf q := sorted_ext (setsOf_sorted p) (setsOf_sorted q) fun s => by
  rw [mem_setsOf, mem_setsOf]
  exact ⟨fun ⟨a, b⟩ => ⟨a, (h s a).1 b⟩, fun ⟨a, b⟩ => ⟨a, (h s a).2 b⟩⟩
theorem setsOf_none : setsOf (fun _ => False) = [] := by
  apply List.eq_nil_iff_forall_not_mem.2
  intro s hs
  exact (mem_setsOf.1 hs).2
theorem allS_setsOf (p : Int → Prop) : allS (setsOf p) := fun x hx => (mem_setsOf.1 hx).1
theorem setsOf_nodup (p : Int → Prop) : (setsOf p).Nodup := by
  refine (setsOf_sorted p).imp ?_
  intro a b h e
  subst e
  simp only [before, decide_eq_true_eq] at h
  omega
theorem setsOf_len (p : Int → Prop) : (setsOf p).length ≤ 64 := nodup_len (setsOf_nodup p) (allS_setsOf p)
theorem filter_setsOf (p : Int → Prop) (q : Int → Bool) : (setsOf p).filter q = setsOf fun s => p s ∧ q s = true :=
  sorted_ext ((setsOf_sorted p).filter q) (setsOf_sorted _) fun x => by simp only [List.mem_filter, mem_setsOf, and_assoc]
/-- A row of 64 marks. -/
noncomputable def bools (p : Int → Prop) : List V := (List.range 64).map fun (k : Nat) => V.bool (dec (p (k : Int)))
@[simp] theorem bools_len (p : Int → Prop) : (bools p).length = 64 := by simp [bools]
theorem bools_get {p : Int → Prop} {k : Nat} (hk : k < 64) (d : V) : (bools p)[k]?.getD d = .bool (dec (p (k : Int))) := by simp [bools, hk]
theorem bools_set {p : Int → Prop} {k : Nat} (hk : k < 64) : (bools p).set k (.bool true) = bools fun s => p s ∨ s = (k : Int) := by
  apply List.ext_getElem (by simp)
  intro j h1 h2
  simp only [bools_len] at h2
  rw [List.getElem_set]
  split
  · rename_i e
    subst e
    simp [bools, dec]
  · rename_i e
    have : ¬ ((j : Int) = k) := by omega
    simp [bools, dec, this]
theorem bools_congr {p q : Int → Prop} (h : ∀ s, isS s → (p s ↔ q s)) : bools p = bools q := by
  apply List.ext_getElem (by simp)
  intro j h1 h2
  simp only [bools_len] at h2
  simp [bools, dec, h j (inS j h2)]
theorem bools_none : List.replicate 64 (V.bool false) = bools fun _ => False := by
  show _ = (List.range 64).map fun _ => V.bool (dec False)
  rw [dec_false fun h => h, List.map_const', List.length_range]
@[simp] theorem bools_cell (p : Int → Prop) : (bools p).all V.cell = true := by simp [bools, V.cell]
@[simp] theorem bools_ren (r : Nat → Option Nat) (p : Int → Prop) : renL r (bools p) = some (bools p) := by
  unfold bools
  generalize List.range 64 = l
  induction l with
  | nil => rfl
  | cons a l ih => simp [renL, ren1, ih]
end Go.Proofs.Ytmemomfffehnkaa
namespace Go.Proofs.Ytmemomfffehnkaa
open Go Go.RowKit
set_option maxRecDepth 1000000
set_option linter.unusedSimpArgs false
set_option linter.unusedVariables false
set_option maxHeartbeats 1000000
/-- The sets of a family that is given as a word. -/
def bitP (f s : Int) : Prop := f.toNat.testBit s.toNat = true
theorem bitP_fam {p : Int → Prop} {s : Int} (hs : isS s) : bitP (fam p) s ↔ p s := by
  unfold bitP
  rw [fam_bit p hs]
  exact dec_iff
theorem fam_bitP {f : Int} (h1 : 0 ≤ f) (h2 : f < 18446744073709551616) : f = fam (bitP f) := by
  obtain ⟨m, rfl⟩ : ∃ m : Nat, f = m := ⟨f.toNat, by omega⟩
  refine fam_ext (by omega) fun k hk => ?_
  unfold bitP
  simp
/-- The maximal sets of a family. -/
def maxP (p : Int → Prop) (s : Int) : Prop := p s ∧ ∀ t, isS t → p t → subS s t → t = s
theorem maxP_congr {p q : Int → Prop} (h : ∀ s, isS s → (p s ↔ q s)) {s : Int} (hs : isS s) : maxP p s ↔ maxP q s := by
  unfold maxP
  rw [h s hs]
  constructor
  · rintro ⟨a, b⟩; exact ⟨a, fun t ht hq => b t ht ((h t ht).2 hq)⟩
  · rintro ⟨a, b⟩; exact ⟨a, fun t ht hq => b t ht ((h t ht).1 hq)⟩
theorem maxP_down {p q : Int → Prop} (h : ∀ t, isS t → (q t ↔ ∃ u, isS u ∧ p u ∧ subS t u)) {s : Int} (hs : isS s) : maxP p s ↔ maxP q s := by
  constructor
  · rintro ⟨a, b⟩
    refine ⟨(h s hs).2 ⟨s, hs, a, subS_refl hs⟩, fun t ht hq hst => ?_⟩
    obtain ⟨u, hu, hpu, htu⟩ := (h t ht).1 hq
    have e := b u hu hpu (subS_trans hs ht hu hst htu)
    subst e
    exact subS_anti ht hs htu hst
  · rintro ⟨a, b⟩
    obtain ⟨u, hu, hpu, hsu⟩ := (h s hs).1 a
    have e := b u hu ((h u hu).2 ⟨u, hu, hpu, subS_refl hu⟩) hsu
    subst e
    exact ⟨hpu, fun t ht hpt hst => b t ht ((h t ht).2 ⟨t, ht, hpt, subS_refl ht⟩) hst⟩
theorem setsOf_nil {q : Int → Prop} : setsOf q = [] ↔ ∀ s, isS s → ¬ q s := by
  constructor
  · intro h s hs hq
    have := mem_setsOf.2 ⟨hs, hq⟩
    rw [h] at this
    simp at this
  · intro h
    rw [← setsOf_none]
    exact setsOf_congr fun s hs => ⟨fun hq => h s hs hq, False.elim⟩
theorem filt_pos {l : List Int} {k : Nat} (h : k < l.length) {q : Int → Bool} (hq : q (at0 l k) = true) : (l.take (k + 1)).filter q = (l.take k).filter q ++ [at0 l k] := by
  rw [take_at h, List.filter_append]
  simp [hq]
theorem filt_neg {l : List Int} {k : Nat} (h : k < l.length) {q : Int → Bool} (hq : q (at0 l k) = false) : (l.take (k + 1)).filter q = (l.take k).filter q := by
  rw [take_at h, List.filter_append]
  simp [hq]
theorem filt_len (l : List Int) (k : Nat) (q : Int → Bool) : ((l.take k).filter q).length ≤ l.length := by
  have h1 := List.length_filter_le q (l.take k)
  have h2 : (l.take k).length ≤ l.length := by simp; omega
  omega
theorem filt_setsOf (p : Int → Prop) (q : Int → Prop) : (setsOf p).filter (fun s => dec (q s)) = setsOf fun s => p s ∧ q s := by
  rw [filter_setsOf]
  exact setsOf_congr fun s _ => by rw [dec_iff]
/-- The only other set of a family of which s is a part. -/
def freeOf (p : Int → Prop) (s t : Int) : Prop := isS t ∧ (p t ∧ subS s t ∧ t ≠ s) ∧ ∀ u, isS u → (p u ∧ subS s u ∧ u ≠ s) → u = t
end Go.Proofs.Ytmemomfffehnkaa
namespace Go.Proofs.Ytmemomfffehnkaa
open Go Go.RowKit
set_option maxRecDepth 1000000
set_option linter.unusedSimpArgs false
set_option linter.unusedVariables false
set_option maxHeartbeats 1000000
theorem pc_sub : ∀ x : Nat, x < 64 → ∀ y : Nat, y < 64 → (x &&& y != x || decide (pcF 6 x ≤ pcF 6 y) && (x == y || decide (pcF 6 x < pcF 6 y))) = true := by decide +kernel
theorem sz_sub {a b : Int} (ha : isS a) (hb : isS b) (h : subS a b) : sz a ≤ sz b ∧ (a ≠ b → sz a < sz b) := by
  obtain ⟨x, hx, rfl⟩ := isS_nat ha
  obtain ⟨y, hy, rfl⟩ := isS_nat hb
  have k := pc_sub x hx y hy
  rw [subS_nat x y hx hy] at h
  simp only [sz, Int.toNat_natCast, pc6 x hx, pc6 y hy]
  simp only [Bool.or_eq_true, bne_iff_ne, Bool.and_eq_true, decide_eq_true_eq, beq_iff_eq] at k
  rcases k with k | ⟨k1, k2⟩
  · exact absurd h k
  · refine ⟨by omega, fun hne => ?_⟩
    rcases k2 with k2 | k2
    · subst k2; exact absurd rfl hne
    · omega
theorem before_at {l : List Int} (h : l.Pairwise fun a b => before a b = true) {i j : Nat} (hij : i < j) (hj : j < l.length) : before (at0 l i) (at0 l j) = true := by
  have := List.pairwise_iff_getElem.1 h i j (by omega) hj hij
  rwa [← at0_eq, ← at0_eq] at this
theorem max_iff_later (p : Int → Prop) {k : Nat} (hk : k < (setsOf p).length) : maxP p (at0 (setsOf p) k) ↔ ∀ j, k < j → j < (setsOf p).length → ¬ subS (at0 (setsOf p) k) (at0 (setsOf p) j) := by
  obtain ⟨hs, hp⟩ := mem_setsOf.1 (getD_mem' hk)
  constructor
  · rintro ⟨_, h⟩ j hkj hj hsub
    obtain ⟨ht, hpt⟩ := mem_setsOf.1 (getD_mem' hj)
    have e := h _ ht hpt hsub
    have hb := before_at (setsOf_sorted p) hkj hj
    rw [e] at hb
    simp only [before, decide_eq_true_eq] at hb
    omega
  · intro h
    refine ⟨hp, fun t ht hpt hst => Classical.byContradiction fun hne => ?_⟩
    obtain ⟨j, hj, e⟩ := getD_mem_iff.1 (mem_setsOf.2 ⟨ht, hpt⟩)
    have hlt := (sz_sub hs ht hst).2 fun e => hne e.symm
    rcases Nat.lt_trichotomy j k with h1 | h1 | h1
    · have hb := before_at (setsOf_sorted p) h1 hk
      rw [e] at hb
      simp only [before, decide_eq_true_eq] at hb
      omega
    · subst h1
      exact hne e.symm
    · exact h j h1 hj (by rw [e]; exact hst)
theorem max_iff_all (p : Int → Prop) {k : Nat} (hk : k < (setsOf p).length) : maxP p (at0 (setsOf p) k) ↔ ∀ j, j < (setsOf p).length → at0 (setsOf p) k ≠ at0 (setsOf p) j → ¬ subS (at0 (setsOf p) k) (at0 (setsOf p) j) := by
  obtain ⟨hs, hp⟩ := mem_setsOf.1 (getD_mem' hk)
  constructor
  · rintro ⟨_, h⟩ j hj hne hsub
    obtain ⟨ht, hpt⟩ := mem_setsOf.1 (getD_mem' hj)
    exact hne (h _ ht hpt hsub).symm
  · intro h
    refine ⟨hp, fun t ht hpt hst => Classical.byContradiction fun hne => ?_⟩
    obtain ⟨j, hj, e⟩ := getD_mem_iff.1 (mem_setsOf.2 ⟨ht, hpt⟩)
    exact h j hj (fun e2 => hne (e2.trans e).symm) (by rw [e]; exact hst)
theorem filt_max (p : Int → Prop) : (setsOf p).filter (fun s => dec (maxP p s)) = setsOf (maxP p) := by
  rw [filt_setsOf]
  exact setsOf_congr fun s _ => ⟨fun h => h.2, fun h => ⟨h.1, h⟩⟩
/-- By points. -/
theorem subS_tb {a b : Int} (ha : isS a) (hb : isS b) : subS a b ↔ ∀ i, i < 6 → tb a i → tb b i := by
  constructor
  · intro h i hi
    have e := (subS_iff ha hb).1 h
    intro h2
    rw [← e] at h2
    exact ((band_bits ha hb hi).1 h2).2
  · intro h
    refine (subS_iff ha hb).2 (tb_ext (isS_band ha hb) ha fun i hi => ?_)
    rw [band_bits ha hb hi]
    exact ⟨fun h => h.1, fun h2 => ⟨h2, h i hi h2⟩⟩
theorem tb_bnot_iff {a b : Int} (ha : isS a) (hb : isS b) {i : Nat} (hi : i < 6) : tb (bnot a b) i ↔ tb a i ∧ ¬ tb b i := by
  obtain ⟨x, hx, rfl⟩ := isS_nat ha
  obtain ⟨y, hy, rfl⟩ := isS_nat hb
  rw [bnot_nat x y hx hy, tb_nat _ i (by omega) hi, tb_nat x i hx hi, tb_nat y i hy hi, bnot_bits x y i hx hy hi]
  cases x.testBit i <;> cases y.testBit i <;> simp
theorem band_none {a b : Int} (ha : isS a) (hb : isS b) : band a b = 0 ↔ ∀ i, i < 6 → ¬ (tb a i ∧ tb b i) := by
  constructor
  · intro h i hi hh
    have := (band_bits ha hb hi).2 hh
    rw [h] at this
    exact tb_zero i hi this
  · intro h
    refine tb_ext (isS_band ha hb) isS_zero fun i hi => ?_
    rw [band_bits ha hb hi]
    exact ⟨fun hh => absurd hh (h i hi), fun hh => absurd hh (tb_zero i hi)⟩
theorem sub_eq_bnot {s f : Int} (hs : isS s) (hf : isS f) (h : subS s f) : f - s = bnot f s := by
  obtain ⟨x, hx, rfl⟩ := isS_nat hs
  obtain ⟨y, hy, rfl⟩ := isS_nat hf
  rw [subS_nat x y hx hy] at h
  have h2 : y &&& x = x := by rw [Nat.and_comm]; exact h
  rw [bnot_nat y x hy hx, h2]
  have : x ≤ y := by rw [← h]; exact Nat.and_le_right
  omega
/-- Sets that with s are faces, and have no point of s. -/
def lnkP (p : Int → Prop) (s t : Int) : Prop := band t s = 0 ∧ p (bor t s)
/-- Faces of which s is no part. -/
def wtoP (p : Int → Prop) (s t : Int) : Prop := p t ∧ ¬ subS s t
theorem lnk_part {t s f : Int} (ht : isS t) (hs : isS s) (hf : isS f) : (band t s = 0 ∧ subS (bor t s) f) ↔ (subS s f ∧ subS t (bnot f s)) := by
  rw [band_none ht hs, subS_tb (isS_bor ht hs) hf, subS_tb hs hf, subS_tb ht (isS_bnot hf hs)]
  constructor
  · rintro ⟨h1, h2⟩
    refine ⟨fun i hi h => h2 i hi ((tb_bor ht hs hi).2 (.inr h)), fun i hi h => (tb_bnot_iff hf hs hi).2 ⟨h2 i hi ((tb_bor ht hs hi).2 (.inl h)), fun h3 => h1 i hi ⟨h, h3⟩⟩⟩
  · rintro ⟨h1, h2⟩
    refine ⟨fun i hi h => ((tb_bnot_iff hf hs hi).1 (h2 i hi h.1)).2 h.2, fun i hi h => ?_⟩
    rcases (tb_bor ht hs hi).1 h with h | h
    · exact ((tb_bnot_iff hf hs hi).1 (h2 i hi h)).1
    · exact h1 i hi h
/-- The link's sets of facets. -/
noncomputable def lnkL (l : List Int) (s : Int) : List Int := (l.filter fun f => dec (subS s f)).map fun f => f - s
theorem lnkL_max {l : List Int} (hl : allS l) {s : Int} (hs : isS s) {t : Int} (ht : isS t) : maxP (fun u => u ∈ lnkL l s) t ↔ maxP (lnkP (faceS l) s) t := by
  refine maxP_down (fun t ht => ?_) ht
  unfold lnkP lnkL
  constructor
  · rintro ⟨h1, f, hf, h2⟩
    obtain ⟨h3, h4⟩ := (lnk_part ht hs (hl f hf)).1 ⟨h1, h2⟩
    have e := sub_eq_bnot hs (hl f hf) h3
    refine ⟨f - s, by rw [e]; exact isS_bnot (hl f hf) hs, List.mem_map.2 ⟨f, List.mem_filter.2 ⟨hf, dec_true h3⟩, rfl⟩, by rw [e]; exact h4⟩
  · rintro ⟨u, hu, hmem, h2⟩
    obtain ⟨f, hf, rfl⟩ := List.mem_map.1 hmem
    obtain ⟨hf, h3⟩ := List.mem_filter.1 hf
    have h3 := dec_iff.1 h3
    rw [sub_eq_bnot hs (hl f hf) h3] at h2
    obtain ⟨h4, h5⟩ := (lnk_part ht hs (hl f hf)).2 ⟨h3, h2⟩
    exact ⟨h4, f, hf, h5⟩
theorem allS_lnkL {l : List Int} (hl : allS l) {s : Int} (hs : isS s) : allS (lnkL l s) := by
  intro x hx
  obtain ⟨f, hf, rfl⟩ := List.mem_map.1 hx
  obtain ⟨hf, h3⟩ := List.mem_filter.1 hf
  rw [sub_eq_bnot hs (hl f hf) (dec_iff.1 h3)]
  exact isS_bnot (hl f hf) hs
end Go.Proofs.Ytmemomfffehnkaa
