import Derived.Test.YtmemomfffehnkaaRD
namespace Go.Proofs.Ytmemomfffehnkaa
open Go Go.RowKit
set_option maxRecDepth 1000000
set_option linter.unusedSimpArgs false
set_option linter.unusedVariables false
set_option maxHeartbeats 1000000
def isS (x : Int) : Prop := 0 ≤ x ∧ x < 64
def allS (l : List Int) : Prop := ∀ x ∈ l, isS x
theorem allS_at {l : List Int} (h : allS l) {j : Nat} (hj : j < l.length) : isS (at0 l j) := h _ (getD_mem' hj)
theorem forS {p : Int → Prop} (h : ∀ x : Nat, x < 64 → p x) {a : Int} (ha : isS a) : p a := by
  have := h a.toNat (by have := ha.1; have := ha.2; omega)
  rwa [Int.toNat_of_nonneg ha.1] at this
abbrev band (a b : Int) : Int := bitop .and .i64 a b
abbrev bor (a b : Int) : Int := bitop .or .i64 a b
abbrev bnot (a b : Int) : Int := bitop .andNot .i64 a b
/-- Is the point in the set. -/
def tb (a : Int) (i : Nat) : Prop := band a (2 ^ i) ≠ 0
instance (a : Int) (i : Nat) : Decidable (tb a i) := by unfold tb; infer_instance
theorem isS_nat0 {s : Int} (h : isS s) : ∃ k : Nat, k < 64 ∧ s = k := ⟨s.toNat, by unfold isS at h; omega, by unfold isS at h; omega⟩
theorem band_nat0 (a b : Nat) (ha : a < 64) (hb : b < 64) : band a b = ((a &&& b : Nat) : Int) := bits_and a b (by omega) (by omega)
theorem bor_nat0 (a b : Nat) (ha : a < 64) (hb : b < 64) : bor a b = ((a ||| b : Nat) : Int) := bits_or a b (by omega) (by omega)
theorem bnot_nat0 (a b : Nat) (ha : a < 64) (hb : b < 64) : bnot a b = ((a - (a &&& b) : Nat) : Int) := by
  have key : ∀ a : Nat, a < 64 → ∀ b : Nat, b < 64 → a &&& (2 ^ 64 - 1 - b) = a - (a &&& b) := by decide +kernel
  have e : bnot (a : Int) (b : Int) = IntKind.i64.wrap ((BitVec.ofInt 64 (a : Int) &&& ~~~ BitVec.ofInt 64 (b : Int)).toNat) := rfl
  have h1 : a &&& (2 ^ 64 - 1 - b) ≤ a := Nat.and_le_left
  rw [e, BitVec.ofInt_natCast, BitVec.ofInt_natCast, BitVec.toNat_and, BitVec.toNat_not, BitVec.toNat_ofNat, BitVec.toNat_ofNat]
  rw [Nat.mod_eq_of_lt (by omega), Nat.mod_eq_of_lt (by omega), ← key a ha b hb]
  exact wrapI _ (by omega) (by omega)
theorem tb_nat (x i : Nat) (hx : x < 64) (hi : i < 6) : tb (x : Int) i ↔ x.testBit i = true := by
  have key : ∀ x : Nat, x < 64 → ∀ i : Nat, i < 6 → (x &&& 2 ^ i ≠ 0 ↔ x.testBit i = true) := by decide +kernel
  have hp : 2 ^ i < 64 := Nat.pow_lt_pow_right (n := 6) (by omega) hi
  have e : ((2 : Int) ^ i) = ((2 ^ i : Nat) : Int) := by simp
  rw [← key x hx i hi, tb, e, band_nat0 x (2 ^ i) hx hp]
  omega
theorem and_lt64 {x y : Nat} (hx : x < 64) : x &&& y < 64 := Nat.lt_of_le_of_lt Nat.and_le_left hx
theorem or_lt64 {x y : Nat} (hx : x < 64) (hy : y < 64) : x ||| y < 64 := Nat.or_lt_two_pow (n := 6) hx hy
theorem isS_bor {a b : Int} (ha : isS a) (hb : isS b) : isS (bor a b) := by
  obtain ⟨x, hx, rfl⟩ := isS_nat0 ha
  obtain ⟨y, hy, rfl⟩ := isS_nat0 hb
  rw [bor_nat0 x y hx hy]
  have := or_lt64 hx hy
  unfold isS; omega
theorem isS_bnot {a b : Int} (ha : isS a) (hb : isS b) : isS (bnot a b) := by
  obtain ⟨x, hx, rfl⟩ := isS_nat0 ha
  obtain ⟨y, hy, rfl⟩ := isS_nat0 hb
  rw [bnot_nat0 x y hx hy]
  unfold isS; omega
theorem isS_band {a b : Int} (ha : isS a) (hb : isS b) : isS (band a b) := by
  obtain ⟨x, hx, rfl⟩ := isS_nat0 ha
  obtain ⟨y, hy, rfl⟩ := isS_nat0 hb
  rw [band_nat0 x y hx hy]
  have := and_lt64 (y := y) hx
  unfold isS; omega
theorem isS_pow {i : Nat} (hi : i < 6) : isS (2 ^ i) := by
  have hp : 2 ^ i < 64 := Nat.pow_lt_pow_right (n := 6) (by omega) hi
  have e : ((2 : Int) ^ i) = ((2 ^ i : Nat) : Int) := by simp
  rw [e]
  generalize (2 : Nat) ^ i = p at *
  unfold isS; omega
theorem pow_nat (i : Nat) : ((2 : Int) ^ i) = ((2 ^ i : Nat) : Int) := by simp
theorem pow_lt64 {i : Nat} (hi : i < 6) : 2 ^ i < 64 := Nat.pow_lt_pow_right (n := 6) (by omega) hi
theorem tb_bor {a b : Int} (ha : isS a) (hb : isS b) {i : Nat} (hi : i < 6) : tb (bor a b) i ↔ tb a i ∨ tb b i := by
  obtain ⟨x, hx, rfl⟩ := isS_nat0 ha
  obtain ⟨y, hy, rfl⟩ := isS_nat0 hb
  rw [bor_nat0 x y hx hy, tb_nat _ i (or_lt64 hx hy) hi, tb_nat x i hx hi, tb_nat y i hy hi, Nat.testBit_or, Bool.or_eq_true]
theorem tb_pow {i j : Nat} (hi : i < 6) (hj : j < 6) : tb (2 ^ i) j ↔ i = j := by
  rw [pow_nat, tb_nat _ j (pow_lt64 hi) hj, Nat.testBit_two_pow, decide_eq_true_iff]
theorem tb_zero (i : Nat) (hi : i < 6) : ¬ tb 0 i := by
  rw [show (0 : Int) = ((0 : Nat) : Int) from rfl, tb_nat 0 i (by omega) hi]
  simp
theorem tb_ext {a b : Int} (ha : isS a) (hb : isS b) (h : ∀ i, i < 6 → (tb a i ↔ tb b i)) : a = b := by
  obtain ⟨x, hx, rfl⟩ := isS_nat0 ha
  obtain ⟨y, hy, rfl⟩ := isS_nat0 hb
  congr 1
  apply Nat.eq_of_testBit_eq
  intro i
  by_cases hi : i < 6
  · have := h i hi
    rw [tb_nat x i hx hi, tb_nat y i hy hi] at this
    exact Bool.eq_iff_iff.2 this
  · have h6 : 64 ≤ 2 ^ i := Nat.pow_le_pow_right (n := 2) (i := 6) (by omega) (by omega)
    rw [Nat.testBit_lt_two_pow (by omega), Nat.testBit_lt_two_pow (by omega)]
theorem bor_again {a : Int} (ha : isS a) {i : Nat} (hi : i < 6) : bor (bor a (2 ^ i)) (2 ^ i) = bor a (2 ^ i) := by
  obtain ⟨x, hx, rfl⟩ := isS_nat0 ha
  rw [pow_nat, bor_nat0 x _ hx (pow_lt64 hi), bor_nat0 _ _ (or_lt64 hx (pow_lt64 hi)) (pow_lt64 hi), Nat.or_assoc, Nat.or_self]
theorem pow_le_of_bit {x i : Nat} (h : x.testBit i = true) : 2 ^ i ≤ x := Nat.ge_two_pow_of_testBit h
theorem sub_pow {s : Int} (hs : isS s) {i : Nat} (hi : i < 6) (ht : tb s i) : isS (s - 2 ^ i) := by
  obtain ⟨x, hx, rfl⟩ := isS_nat0 hs
  have := pow_le_of_bit ((tb_nat x i hx hi).1 ht)
  rw [pow_nat]
  generalize (2 : Nat) ^ i = p at *
  unfold isS; omega
theorem pc6 : ∀ n : Nat, n < 64 → pc n = pcF 6 n := by decide +kernel
theorem ridge_key {s g : Int} (hs : isS s) (hg : isS g) (hn : bnot s g ≠ 0) {i : Nat} (hi : i < 6) : (tb s i ∧ band g (s - 2 ^ i) = s - 2 ^ i) ↔ (sizeOf1 (bnot s g) = 1 ∧ tb (bnot s g) i) := by
  obtain ⟨x, hx, rfl⟩ := isS_nat0 hs
  obtain ⟨y, hy, rfl⟩ := isS_nat0 hg
  have key : ∀ x : Nat, x < 64 → ∀ y : Nat, y < 64 → ∀ i : Nat, i < 6 → (x - (x &&& y) == 0 || ((x.testBit i && (y &&& (x - 2 ^ i)) == x - 2 ^ i) == (pcF 6 (x - (x &&& y)) == 1 && (x - (x &&& y)).testBit i))) = true := by decide +kernel
  have k := key x hx y hy i hi
  rw [bnot_nat0 x y hx hy] at hn ⊢
  have hm : x - (x &&& y) < 64 := by omega
  have h0 : (x - (x &&& y) == 0) = false := by
    rw [beq_eq_false_iff_ne]
    omega
  rw [h0, Bool.false_or, beq_iff_eq, Bool.eq_iff_iff] at k
  simp only [Bool.and_eq_true, beq_iff_eq] at k
  rw [tb_nat x i hx hi, tb_nat _ i hm hi, pow_nat]
  have hz : sizeOf1 ((x - (x &&& y) : Nat) : Int) = (pcF 6 (x - (x &&& y)) : Nat) := by
    rw [sizeOf1_set (by omega) (by omega), sz, Int.toNat_natCast, pc6 _ hm]
  rw [hz]
  have hple : x.testBit i = true → 2 ^ i ≤ x := pow_le_of_bit
  generalize (2 : Nat) ^ i = p at *
  constructor
  · rintro ⟨h1, h2⟩
    have hle := hple h1
    have e : ((x : Int) - (p : Int)) = ((x - p : Nat) : Int) := by omega
    rw [e, band_nat0 y _ hy (by omega)] at h2
    have := k.1 ⟨h1, by omega⟩
    exact ⟨by omega, this.2⟩
  · rintro ⟨h1, h2⟩
    have := k.2 ⟨by omega, h2⟩
    have hle := hple this.1
    have e : ((x : Int) - (p : Int)) = ((x - p : Nat) : Int) := by omega
    rw [e, band_nat0 y _ hy (by omega)]
    exact ⟨this.1, by omega⟩
theorem bnot_bits (x y i : Nat) (hx : x < 64) (hy : y < 64) (hi : i < 6) : (x - (x &&& y)).testBit i = (x.testBit i && !y.testBit i) := by
  have key : ∀ x : Nat, x < 64 → ∀ y : Nat, y < 64 → ∀ i : Nat, i < 6 → (x - (x &&& y)).testBit i = (x.testBit i && !y.testBit i) := by decide +kernel
  exact key x hx y hy i hi
theorem tb_bnot {a b : Int} (ha : isS a) (hb : isS b) {i : Nat} (hi : i < 6) : tb (bnot a b) i → tb a i := by
  obtain ⟨x, hx, rfl⟩ := isS_nat0 ha
  obtain ⟨y, hy, rfl⟩ := isS_nat0 hb
  rw [bnot_nat0 x y hx hy, tb_nat _ i (by omega) hi, tb_nat x i hx hi, bnot_bits x y i hx hy hi, Bool.and_eq_true]
  exact fun h => h.1
theorem band_bits {a b : Int} (ha : isS a) (hb : isS b) {i : Nat} (hi : i < 6) : tb (band a b) i ↔ tb a i ∧ tb b i := by
  obtain ⟨x, hx, rfl⟩ := isS_nat0 ha
  obtain ⟨y, hy, rfl⟩ := isS_nat0 hb
  rw [band_nat0 x y hx hy, tb_nat _ i (and_lt64 hx) hi, tb_nat x i hx hi, tb_nat y i hy hi, Nat.testBit_and, Bool.and_eq_true]
theorem bnot_zero {a b : Int} (ha : isS a) (hb : isS b) : bnot a b = 0 ↔ band b a = a := by
  obtain ⟨x, hx, rfl⟩ := isS_nat0 ha
  obtain ⟨y, hy, rfl⟩ := isS_nat0 hb
  have : x &&& y ≤ x := Nat.and_le_left
  rw [bnot_nat0 x y hx hy, band_nat0 y x hy hx, Nat.and_comm y x]
  omega
theorem bnot_zero2 {a b : Int} (ha : isS a) (hb : isS b) : bnot a b = 0 ↔ band a b = a := by
  obtain ⟨x, hx, rfl⟩ := isS_nat0 ha
  obtain ⟨y, hy, rfl⟩ := isS_nat0 hb
  have : x &&& y ≤ x := Nat.and_le_left
  rw [bnot_nat0 x y hx hy, band_nat0 x y hx hy]
  omega
/-- The points of s without which it lies in one of the sets before. -/
def ridge (before : List Int) (s : Int) (i : Nat) : Prop := tb s i ∧ ∃ g ∈ before, band g (s - 2 ^ i) = s - 2 ^ i
open Classical in
noncomputable def newI (before : List Int) (s : Int) : Nat → Int
  | 0 => 0
  | i + 1 => if ridge before s i then bor (newI before s i) (2 ^ i) else newI before s i
theorem newI_isS (before : List Int) (s : Int) : ∀ i, i ≤ 6 → isS (newI before s i) := by
  intro i
  induction i with
  | zero => intro _; simp [newI, isS]
  | succ i ih =>
    intro h
    simp only [newI]
    split
    · exact isS_bor (ih (by omega)) (isS_pow (by omega))
    · exact ih (by omega)
theorem newI_tb (before : List Int) (s : Int) : ∀ i, i ≤ 6 → ∀ j, j < 6 → (tb (newI before s i) j ↔ j < i ∧ ridge before s j) := by
  intro i
  induction i with
  | zero => intro _ j hj; simp [newI, tb_zero j hj]
  | succ i ih =>
    intro h j hj
    simp only [newI]
    split
    · rename_i hr
      rw [tb_bor (newI_isS before s i (by omega)) (isS_pow (by omega)) hj, ih (by omega) j hj, tb_pow (by omega) hj]
      constructor
      · rintro (⟨h1, h2⟩ | rfl)
        · exact ⟨by omega, h2⟩
        · exact ⟨by omega, hr⟩
      · rintro ⟨h1, h2⟩
        rcases Nat.lt_succ_iff_lt_or_eq.1 h1 with h3 | rfl
        · exact .inl ⟨h3, h2⟩
        · exact .inr rfl
    · rename_i hr
      rw [ih (by omega) j hj]
      constructor
      · rintro ⟨h1, h2⟩; exact ⟨by omega, h2⟩
      · rintro ⟨h1, h2⟩
        rcases Nat.lt_succ_iff_lt_or_eq.1 h1 with h3 | rfl
        · exact ⟨h3, h2⟩
        · exact absurd h2 hr
def partI (before : List Int) (s : Int) : Int := before.foldl (fun o g => if sizeOf1 (bnot s g) = 1 then bor o (bnot s g) else o) 0
theorem take_at {l : List Int} {k : Nat} (h : k < l.length) : l.take (k + 1) = l.take k ++ [at0 l k] := by
  rw [at0_eq h, List.take_succ_eq_append_getElem h]
theorem partI_step {l : List Int} {k : Nat} (h : k < l.length) (s : Int) : partI (l.take (k + 1)) s = if sizeOf1 (bnot s (at0 l k)) = 1 then bor (partI (l.take k) s) (bnot s (at0 l k)) else partI (l.take k) s := by
  rw [take_at h, partI, List.foldl_append]
  rfl
theorem allS_take {l : List Int} (h : allS l) (k : Nat) : allS (l.take k) := fun x hx => h x (List.mem_of_mem_take hx)
theorem partI_isS {l : List Int} (hl : allS l) {s : Int} (hs : isS s) : ∀ k, k ≤ l.length → isS (partI (l.take k) s) := by
  intro k
  induction k with
  | zero => intro _; simp [partI, isS]
  | succ k ih =>
    intro h
    rw [partI_step (by omega)]
    split
    · exact isS_bor (ih (by omega)) (isS_bnot hs (allS_at hl (by omega)))
    · exact ih (by omega)
theorem partI_tb {l : List Int} (hl : allS l) {s : Int} (hs : isS s) {i : Nat} (hi : i < 6) : ∀ k, k ≤ l.length → (tb (partI (l.take k) s) i ↔ ∃ j, j < k ∧ sizeOf1 (bnot s (at0 l j)) = 1 ∧ tb (bnot s (at0 l j)) i) := by
  intro k
  induction k with
  | zero => intro _; simp [partI, tb_zero i hi]
  | succ k ih =>
    intro h
    rw [partI_step (by omega)]
    split
    · rename_i h1
      rw [tb_bor (partI_isS hl hs k (by omega)) (isS_bnot hs (allS_at hl (by omega))) hi, ih (by omega)]
      constructor
      · rintro (⟨j, h2, h3⟩ | h2)
        · exact ⟨j, by omega, h3⟩
        · exact ⟨k, by omega, h1, h2⟩
      · rintro ⟨j, h2, h3⟩
        rcases Nat.lt_succ_iff_lt_or_eq.1 h2 with h4 | rfl
        · exact .inl ⟨j, h4, h3⟩
        · exact .inr h3.2
    · rename_i h1
      rw [ih (by omega)]
      constructor
      · rintro ⟨j, h2, h3⟩; exact ⟨j, by omega, h3⟩
      · rintro ⟨j, h2, h3⟩
        rcases Nat.lt_succ_iff_lt_or_eq.1 h2 with h4 | rfl
        · exact ⟨j, h4, h3⟩
        · exact absurd h3.1 h1
theorem new_part {l : List Int} (hl : allS l) {s : Int} (hs : isS s) (hn : ∀ g ∈ l, bnot s g ≠ 0) : newI l s 6 = partI l s := by
  have e : partI l s = partI (l.take l.length) s := by rw [List.take_length]
  rw [e]
  refine tb_ext (newI_isS l s 6 (by omega)) (partI_isS hl hs _ (Nat.le_refl _)) fun i hi => ?_
  rw [newI_tb l s 6 (by omega) i hi, partI_tb hl hs hi _ (Nat.le_refl _)]
  constructor
  · rintro ⟨_, h1, g, h2, h3⟩
    obtain ⟨j, hj, rfl⟩ := getD_mem_iff.1 h2
    exact ⟨j, hj, (ridge_key hs (allS_at hl hj) (hn _ h2) hi).1 ⟨h1, h3⟩⟩
  · rintro ⟨j, hj, h1⟩
    have h2 := (ridge_key hs (allS_at hl hj) (hn _ (getD_mem' hj)) hi).2 h1
    exact ⟨hi, h2.1, _, getD_mem' hj, h2.2⟩
theorem part_sub {l : List Int} (hl : allS l) {s : Int} (hs : isS s) {i : Nat} (hi : i < 6) (h : tb (partI l s) i) : tb s i := by
  have e : partI l s = partI (l.take l.length) s := by rw [List.take_length]
  rw [e, partI_tb hl hs hi _ (Nat.le_refl _)] at h
  obtain ⟨j, hj, _, h2⟩ := h
  exact tb_bnot hs (allS_at hl hj) hi h2
/-- The reference's test of a set behind others, and the program's. -/
def fitsS (l : List Int) (s : Int) : Prop := l = [] ∨ ∀ g ∈ l, band (band g s) (newI l s 6) ≠ newI l s 6
def fitsI (l : List Int) (s : Int) : Prop := ∀ g ∈ l, bnot (partI l s) g ≠ 0
theorem fits_same {l : List Int} (hl : allS l) {s : Int} (hs : isS s) (hn : ∀ g ∈ l, bnot s g ≠ 0) : fitsS l s ↔ fitsI l s := by
  unfold fitsS fitsI
  rw [new_part hl hs hn]
  have hr : isS (partI l s) := by
    have := partI_isS hl hs l.length (Nat.le_refl _)
    rwa [List.take_length] at this
  have key : ∀ g ∈ l, (band (band g s) (partI l s) = partI l s ↔ bnot (partI l s) g = 0) := by
    intro g hg
    rw [bnot_zero hr (hl g hg)]
    have : band (band g s) (partI l s) = band g (partI l s) := by
      refine tb_ext (isS_band (isS_band (hl g hg) hs) hr) (isS_band (hl g hg) hr) fun i hi => ?_
      rw [band_bits (isS_band (hl g hg) hs) hr hi, band_bits (hl g hg) hs hi, band_bits (hl g hg) hr hi]
      constructor
      · rintro ⟨⟨a, _⟩, c⟩; exact ⟨a, c⟩
      · rintro ⟨a, c⟩; exact ⟨⟨a, part_sub hl hs hi c⟩, c⟩
    rw [this]
  constructor
  · rintro (rfl | h) g hg
    · simp at hg
    · exact fun e => h g hg ((key g hg).2 e)
  · intro h
    exact .inr fun g hg e => h g hg ((key g hg).1 e)
end Go.Proofs.Ytmemomfffehnkaa
namespace Go.Proofs.Ytmemomfffehnkaa
open Go Go.RowKit
set_option maxRecDepth 1000000
set_option linter.unusedSimpArgs false
set_option linter.unusedVariables false
set_option maxHeartbeats 1000000
def sc_s_l19New_L2 : SC := (.seq (.seq (.reg [⟨(some 20), none, (.mov (.t 8))⟩, ⟨(some 21), none, (.mov (.t 0))⟩, ⟨(some 22), none, (.len (.t 21))⟩, ⟨(some 23), none, (.bin false .lss (.t 20) (.t 22))⟩]) (.cond (.t 23) .skip (.exit 2))) (.seq (.block 3 (.seq (.reg [⟨(some 26), none, (.mov (.t 0))⟩, ⟨(some 27), none, (.mov (.t 8))⟩, ⟨(some 28), none, (.idx 1 (.t 26) (.t 27))⟩, ⟨(some 29), none, (.ld none (.int .i64 0) (.t 28))⟩, ⟨(some 30), none, (.mov (.t 1))⟩, ⟨(some 31), none, (.mov (.t 7))⟩, ⟨(some 32), none, (.bin false .sub (.t 30) (.t 31))⟩, ⟨(some 33), none, (.bin false .and (.t 29) (.t 32))⟩, ⟨(some 34), none, (.mov (.t 1))⟩, ⟨(some 35), none, (.mov (.t 7))⟩, ⟨(some 36), none, (.bin false .sub (.t 34) (.t 35))⟩, ⟨(some 37), none, (.bin false .eql (.t 33) (.t 36))⟩]) (.cond (.t 37) (.reg [⟨(some 38), none, (.mov (.t 5))⟩, ⟨(some 39), none, (.mov (.t 7))⟩, ⟨(some 40), none, (.bin false .or (.t 38) (.t 39))⟩, ⟨(some 5), none, (.mov (.t 40))⟩]) .skip))) (.reg [⟨(some 24), none, (.mov (.t 8))⟩, ⟨(some 25), none, (.bin false .add (.t 24) (.c (.int .i64 1)))⟩, ⟨(some 8), none, (.mov (.t 25))⟩])))
def sc_s_l19New_L0 : SC := (.seq (.seq (.reg [⟨(some 9), none, (.mov (.t 6))⟩, ⟨(some 10), none, (.bin false .lss (.t 9) (.c (.int .i64 6)))⟩]) (.cond (.t 10) .skip (.exit 0))) (.seq (.block 1 (.seq (.reg [⟨(some 13), none, (.mov (.t 6))⟩, ⟨(some 14), none, (.conv .u64 (.t 13))⟩, ⟨(some 15), none, (.bin false .shl (.c (.int .i64 1)) (.t 14))⟩, ⟨(some 7), none, (.mov (.t 15))⟩]) (.seq (.seq (.reg [⟨(some 16), none, (.mov (.t 1))⟩, ⟨(some 17), none, (.mov (.t 7))⟩, ⟨(some 18), none, (.bin false .and (.t 16) (.t 17))⟩, ⟨(some 19), none, (.bin false .eql (.t 18) (.c (.int .i64 0)))⟩]) (.cond (.t 19) (.exit 1) .skip)) (.seq (.reg [⟨(some 8), none, (.mov (.c (.int .i64 0)))⟩]) (.block 2 (.loop sc_s_l19New_L2)))))) (.reg [⟨(some 11), none, (.mov (.t 6))⟩, ⟨(some 12), none, (.bin false .add (.t 11) (.c (.int .i64 1)))⟩, ⟨(some 6), none, (.mov (.t 12))⟩])))
def sc_s_l19New : SC := (.seq (.reg [⟨(some 4), none, (.mov (.c (.int .i64 0)))⟩]) (.seq (.reg [⟨(some 5), none, (.mov (.c (.int .i64 0)))⟩]) (.seq (.seq (.reg [⟨(some 6), none, (.mov (.c (.int .i64 0)))⟩]) (.block 0 (.loop sc_s_l19New_L0))) (.seq (.reg [⟨(some 41), none, (.mov (.t 5))⟩, ⟨(some 4), none, (.mov (.t 41))⟩]) .ret))))
theorem code_s_l19New : fnCode Try.prog [] 154 = some (42, sc_s_l19New, [(4, none)]) := by kernel_rfl
open Classical in
noncomputable def dec (p : Prop) : Bool := decide p
theorem dec_true {p : Prop} (h : p) : dec p = true := by simp [dec, h]
theorem dec_false {p : Prop} (h : ¬ p) : dec p = false := by simp [dec, h]
theorem dec_iff {p : Prop} : dec p = true ↔ p := by simp [dec]
open Classical in
noncomputable def curI (l : List Int) (s : Int) (i : Nat) (o : Int) (k : Nat) : Int := if ∃ j, j < k ∧ band (at0 l j) (s - 2 ^ i) = s - 2 ^ i then bor o (2 ^ i) else o
theorem curI_hit {l : List Int} {s : Int} {i : Nat} {o : Int} {k : Nat} (h : band (at0 l k) (s - 2 ^ i) = s - 2 ^ i) (ho : isS o) (hi : i < 6) : bor (curI l s i o k) (2 ^ i) = curI l s i o (k + 1) := by
  have e : curI l s i o (k + 1) = bor o (2 ^ i) := by
    unfold curI
    rw [if_pos ⟨k, by omega, h⟩]
  rw [e]
  unfold curI
  split
  · exact bor_again ho hi
  · rfl
theorem curI_miss {l : List Int} {s : Int} {i : Nat} {o : Int} {k : Nat} (h : ¬ band (at0 l k) (s - 2 ^ i) = s - 2 ^ i) : curI l s i o (k + 1) = curI l s i o k := by
  have e : (∃ j, j < k + 1 ∧ band (at0 l j) (s - 2 ^ i) = s - 2 ^ i) ↔ ∃ j, j < k ∧ band (at0 l j) (s - 2 ^ i) = s - 2 ^ i := by
    constructor
    · rintro ⟨j, h1, h2⟩
      rcases Nat.lt_succ_iff_lt_or_eq.1 h1 with h3 | rfl
      · exact ⟨j, h3, h2⟩
      · exact absurd h2 h
    · rintro ⟨j, h1, h2⟩
      exact ⟨j, by omega, h2⟩
  unfold curI
  simp only [e]
theorem curI_new {l : List Int} {s : Int} {i : Nat} (ht : tb s i) : curI l s i (newI l s i) l.length = newI l s (i + 1) := by
  have e : (∃ j, j < l.length ∧ band (at0 l j) (s - 2 ^ i) = s - 2 ^ i) ↔ ridge l s i := by
    constructor
    · rintro ⟨j, h1, h2⟩
      exact ⟨ht, _, getD_mem' h1, h2⟩
    · rintro ⟨_, g, h1, h2⟩
      obtain ⟨j, h3, rfl⟩ := getD_mem_iff.1 h1
      exact ⟨j, h3, h2⟩
  unfold curI
  simp only [newI]
  by_cases hr : ridge l s i
  · rw [if_pos hr, if_pos (e.2 hr)]
  · rw [if_neg hr, if_neg fun h => hr (e.1 h)]
open Classical in
noncomputable def F_s_l19New : List V → Option V := F2 dL dI fun l s => if allS l ∧ isS s then some (.int .i64 (newI l s 6)) else none
theorem fn_s_l19New : FnOk Try.prog 154 F_s_l19New := by
  refine fn_ok code_s_l19New mixed envNil_ok ?_
  intro args r h hb
  obtain ⟨_, _, l, s, rfl, h1, h2, h4⟩ := F2_inv h
  cases dL_inv h1
  cases dI_inv h2
  simp only [Option.ite_none_right_eq_some, Option.some.injEq] at h4
  obtain ⟨⟨hl, hs⟩, rfl⟩ := h4
  have hlen := bnd_ints (hb _ (List.mem_cons_self ..))
  refine ⟨by simp, fun w0 U0 L0 N0 => ?_⟩
  have inner : ∀ (i : Nat) (o : Int) (Q : Post) (L : Tm), i < 6 → isS o → tb s i → subE L [(8, .int .i64 0), (0, .list 1 (ints l)), (1, .int .i64 s), (5, .int .i64 o), (6, .int .i64 (i : Int)), (7, .int .i64 (2 ^ i))] →
      Q (.exit 2) [(0, .list 1 (ints l)), (1, .int .i64 s), (5, .int .i64 (curI l s i o l.length)), (6, .int .i64 (i : Int))] ([], 0) → LoopI ⟨Try.prog, w0, U0, L0, N0, 0, 42⟩ [] sc_s_l19New_L2 Q L ([], 0) := by
    intro i o Q L hi ho ht hsub q1
    have hw : IntKind.i64.wrap (s - 2 ^ i) = s - 2 ^ i := by
      have := sub_pow hs hi ht
      exact wrapI _ (by have := this.1; omega) (by have := this.2; omega)
    refine loopQ envNil_ok mixed (fun k : Nat => [(8, .int .i64 (k : Int)), (0, .list 1 (ints l)), (1, .int .i64 s), (5, .int .i64 (curI l s i o k)), (6, .int .i64 (i : Int)), (7, .int .i64 (2 ^ i))]) (fun _ => ([], 0)) (fun k => k ≤ l.length) (fun k => l.length - k) 0 (by simp)
      (SubI.slots rfl (by simpa [curI] using hsub)) ?_
    intro k hk
    by_cases hlt : k < l.length
    · by_cases hit : band (at0 l k) (s - 2 ^ i) = s - 2 ^ i
      · simp -implicitDefEqProofs [sc_s_l19New_L2, hlt, hw, hit]
        refine ⟨by omega, Again.of (k + 1) (by omega) (by omega) (SubI.slots rfl ?_)⟩
        have := curI_hit hit ho hi
        simp (disch := omega) [wrapI, ← this]
      · simp -implicitDefEqProofs [sc_s_l19New_L2, hlt, hw, hit]
        refine ⟨by omega, Again.of (k + 1) (by omega) (by omega) (SubI.slots rfl ?_)⟩
        simp (disch := omega) [wrapI, curI_miss hit]
    · have : k = l.length := by omega
      subst this
      simp -implicitDefEqProofs [sc_s_l19New_L2]
      exact SubQ.of (SubI.slots rfl (by simp)) q1
  simp -implicitDefEqProofs [sc_s_l19New]
  refine loopI envNil_ok mixed (fun i : Nat => [(0, .list 1 (ints l)), (1, .int .i64 s), (5, .int .i64 (newI l s i)), (6, .int .i64 (i : Int))]) (fun _ => ([], 0)) (fun i => i ≤ 6) (fun i => 6 - i) 0 (by simp) (SubI.slots rfl (by simp [newI])) ?_
  intro i hi
  by_cases h6 : i < 6
  · have hu : IntKind.u64.wrap (i : Int) = i := wrapU _ (by omega) (by omega)
    have hsh : IntKind.i64.wrap (2 ^ min i IntKind.i64.bits) = 2 ^ i := by
      have : ∀ i : Nat, i < 6 → IntKind.i64.wrap (2 ^ min i IntKind.i64.bits) = 2 ^ i := by decide +kernel
      exact this i h6
    have h6' : (i : Int) < 6 := by omega
    by_cases ht : band s (2 ^ i) = 0
    · simp -implicitDefEqProofs [sc_s_l19New_L0, h6', hu, hsh, ht]
      have e : newI l s (i + 1) = newI l s i := by
        simp only [newI]
        rw [if_neg]
        exact fun hr => hr.1 ht
      exact Again.of (i + 1) (by omega) (by omega) (SubI.slots rfl (by simp (disch := omega) [wrapI, e]))
    · simp -implicitDefEqProofs [sc_s_l19New_L0, h6', hu, hsh, ht]
      refine inner i _ _ _ h6 (newI_isS l s i (by omega)) ht (by simp) ?_
      simp -implicitDefEqProofs
      refine Again.of (i + 1) (by omega) (by omega) (SubI.slots rfl ?_)
      simp (disch := omega) [wrapI, curI_new ht]
  · have : i = 6 := by omega
    subst this
    simp -implicitDefEqProofs [sc_s_l19New_L0]
def sc_s_l19Fits_L0 : SC := (.seq (.seq (.reg [⟨(some 13), none, (.mov (.t 6))⟩, ⟨(some 14), none, (.mov (.t 0))⟩, ⟨(some 15), none, (.len (.t 14))⟩, ⟨(some 16), none, (.bin false .lss (.t 13) (.t 15))⟩]) (.cond (.t 16) .skip (.exit 0))) (.seq (.block 1 (.seq (.reg [⟨(some 19), none, (.mov (.t 0))⟩, ⟨(some 20), none, (.mov (.t 6))⟩, ⟨(some 21), none, (.idx 1 (.t 19) (.t 20))⟩, ⟨(some 22), none, (.ld none (.int .i64 0) (.t 21))⟩, ⟨(some 23), none, (.mov (.t 1))⟩, ⟨(some 24), none, (.bin false .and (.t 22) (.t 23))⟩, ⟨(some 25), none, (.mov (.t 5))⟩, ⟨(some 26), none, (.bin false .and (.t 24) (.t 25))⟩, ⟨(some 27), none, (.mov (.t 5))⟩, ⟨(some 28), none, (.bin false .eql (.t 26) (.t 27))⟩]) (.cond (.t 28) (.seq (.reg [⟨(some 4), none, (.mov (.c (.bool false)))⟩]) .ret) .skip))) (.reg [⟨(some 17), none, (.mov (.t 6))⟩, ⟨(some 18), none, (.bin false .add (.t 17) (.c (.int .i64 1)))⟩, ⟨(some 6), none, (.mov (.t 18))⟩])))
def sc_s_l19Fits : SC := (.seq (.reg [⟨(some 4), none, (.mov (.c (.bool false)))⟩]) (.seq (.seq (.reg [⟨(some 7), none, (.mov (.t 0))⟩, ⟨(some 8), none, (.len (.t 7))⟩, ⟨(some 9), none, (.bin false .eql (.t 8) (.c (.int .i64 0)))⟩]) (.cond (.t 9) (.seq (.reg [⟨(some 4), none, (.mov (.c (.bool true)))⟩]) .ret) .skip)) (.seq (.reg [⟨(some 10), none, (.mov (.t 0))⟩, ⟨(some 11), none, (.mov (.t 1))⟩, ⟨(some 12), none, (.call 154 [(.t 10), (.t 11)])⟩, ⟨(some 5), none, (.mov (.t 12))⟩]) (.seq (.seq (.reg [⟨(some 6), none, (.mov (.c (.int .i64 0)))⟩]) (.block 0 (.loop sc_s_l19Fits_L0))) (.seq (.reg [⟨(some 4), none, (.mov (.c (.bool true)))⟩]) .ret)))))
theorem code_s_l19Fits : fnCode Try.prog [] 153 = some (29, sc_s_l19Fits, [(4, none)]) := by kernel_rfl
open Classical in
noncomputable def F_s_l19Fits : List V → Option V := F2 dL dI fun l s => if allS l ∧ isS s then some (.bool (dec (fitsS l s))) else none
theorem fn_s_l19Fits : FnOk Try.prog 153 F_s_l19Fits := by
  have env := (envNil_ok (P := Try.prog)).add fn_s_l19New
  refine fn_ok code_s_l19Fits mixed env ?_
  intro args r h hb
  obtain ⟨_, _, l, s, rfl, h1, h2, h4⟩ := F2_inv h
  cases dL_inv h1
  cases dI_inv h2
  simp only [Option.ite_none_right_eq_some, Option.some.injEq] at h4
  obtain ⟨⟨hl, hs⟩, rfl⟩ := h4
  have hlen := bnd_ints (hb _ (List.mem_cons_self ..))
  refine ⟨by simp, fun w0 U0 L0 N0 => ?_⟩
  generalize hv : dec (fitsS l s) = v
  by_cases h0 : l.length = 0
  · have : l = [] := List.eq_nil_of_length_eq_zero h0
    have hv1 : v = true := by rw [← hv]; exact dec_true (.inl this)
    simp -implicitDefEqProofs [sc_s_l19Fits, h0, hv1]
  · simp -implicitDefEqProofs [sc_s_l19Fits, F_s_l19New, hl, hs, h0]
    refine loopI env mixed (fun k : Nat => [(0, .list 1 (ints l)), (1, .int .i64 s), (5, .int .i64 (newI l s 6)), (6, .int .i64 (k : Int))]) (fun _ => ([], 0)) (fun k => k ≤ l.length ∧ ∀ j, j < k → band (band (at0 l j) s) (newI l s 6) ≠ newI l s 6) (fun k => l.length - k) 0 (by simp) (SubI.slots rfl (by simp)) ?_
    rintro k ⟨hk, hn⟩
    by_cases hlt : k < l.length
    · by_cases he : band (band (at0 l k) s) (newI l s 6) = newI l s 6
      · have hv1 : v = false := by
          rw [← hv]
          refine dec_false ?_
          rintro (rfl | hf)
          · simp at h0
          · exact hf _ (getD_mem' hlt) he
        simp -implicitDefEqProofs [sc_s_l19Fits_L0, hlt, he, hv1]
        omega
      · simp -implicitDefEqProofs [sc_s_l19Fits_L0, hlt, he]
        refine ⟨by omega, Again.of (k + 1) ⟨by omega, fun j hj => ?_⟩ (by omega) (SubI.slots rfl (by simp (disch := omega) [wrapI]))⟩
        rcases Nat.lt_succ_iff_lt_or_eq.1 hj with h1 | rfl
        · exact hn j h1
        · exact he
    · have hv1 : v = true := by
        rw [← hv]
        refine dec_true (.inr fun g hg => ?_)
        obtain ⟨j, hj, rfl⟩ := getD_mem_iff.1 hg
        exact hn j (by omega)
      simp -implicitDefEqProofs [sc_s_l19Fits_L0, hlt, hv1]
end Go.Proofs.Ytmemomfffehnkaa
namespace Go.Proofs.Ytmemomfffehnkaa
open Go Go.RowKit
set_option maxRecDepth 1000000
set_option linter.unusedSimpArgs false
set_option linter.unusedVariables false
set_option maxHeartbeats 1000000
theorem before_trans {a b c : Int} (h1 : before a b = true) (h2 : before b c = true) : before a c = true := by
  simp only [before, decide_eq_true_eq] at *
  omega
theorem before_chain {l : List Int} (h : ∀ k, k < l.length → 0 < k → before (at0 l (k - 1)) (at0 l k) = true) : ∀ (d i : Nat), i + d + 1 < l.length → before (at0 l i) (at0 l (i + d + 1)) = true := by
  intro d
  induction d with
  | zero => intro i hi; exact h (i + 1) hi (by omega)
  | succ d ih =>
    intro i hi
    exact before_trans (ih i (by omega)) (h (i + (d + 1) + 1) hi (by omega))
theorem cplx_before {n : Int} {l : List Int} (h : cplx n l) {i j : Nat} (hij : i < j) (hj : j < l.length) : before (at0 l i) (at0 l j) = true := by
  have := before_chain (fun k hk h0 => (h.2.2 k hk).2.1 h0) (j - i - 1) i (by omega)
  rwa [show i + (j - i - 1) + 1 = j by omega] at this
theorem before_apart {a b : Int} (ha : isS a) (hb : isS b) (h : before b a = true) : bnot a b ≠ 0 := by
  obtain ⟨x, hx, rfl⟩ := isS_nat0 ha
  obtain ⟨y, hy, rfl⟩ := isS_nat0 hb
  have key : ∀ x : Nat, x < 64 → ∀ y : Nat, y < 64 → (x - (x &&& y) != 0 || !(decide (pcF 6 y < pcF 6 x) || (pcF 6 y == pcF 6 x && decide (y < x)))) = true := by decide +kernel
  have k := key x hx y hy
  rw [bnot_nat0 x y hx hy]
  simp only [before, decide_eq_true_eq, sz, Int.toNat_natCast, pc6 x hx, pc6 y hy] at h
  simp only [Bool.or_eq_true, bne_iff_ne, Bool.not_eq_true', Bool.or_eq_false_iff, decide_eq_false_iff_not, Bool.and_eq_false_iff, beq_eq_false_iff_ne] at k
  omega
theorem cplx_isS {n : Int} {l : List Int} (h : cplx n l) : allS l := by
  intro x hx
  obtain ⟨j, hj, rfl⟩ := getD_mem_iff.1 hx
  exact isSet_pos (h.2.2 j hj).1
theorem cplx_apart {n : Int} {l : List Int} (h : cplx n l) {a b : Int} (ha : a ∈ l) (hb : b ∈ l) (hab : a ≠ b) : bnot a b ≠ 0 := by
  have h1 := cplx_isS h a ha
  have h2 := cplx_isS h b hb
  obtain ⟨i, hi, rfl⟩ := getD_mem_iff.1 ha
  obtain ⟨j, hj, rfl⟩ := getD_mem_iff.1 hb
  have hne : i ≠ j := fun e => hab (by rw [e])
  rcases Nat.lt_or_gt_of_ne hne with h3 | h3
  · rw [Ne, bnot_zero2 h1 h2]
    exact (h.2.2 j hj).2.2 i h3
  · exact before_apart h1 h2 (cplx_before h h3 hi)
theorem order_parts {n : Int} {l list : List Int} (h : orderB n l list = true) : cplx n l ∧ list.Nodup ∧ (∀ x ∈ list, x ∈ l) ∧ allS list := by
  simp only [orderB, Bool.and_eq_true, decide_eq_true_eq, cplxB_iff] at h
  exact ⟨h.1, h.2.2.1, h.2.2.2, fun x hx => cplx_isS h.1 x (h.2.2.2 x hx)⟩
noncomputable def shellB (n : Int) (l list : List Int) : Bool := dec (orderB n l list = true ∧ ∀ k, k < list.length → fitsI (list.take k) (at0 list k))
end Go.Proofs.Ytmemomfffehnkaa
namespace Go.Proofs.Ytmemomfffehnkaa
open Go Go.RowKit
set_option maxRecDepth 1000000
set_option linter.unusedSimpArgs false
set_option linter.unusedVariables false
set_option maxHeartbeats 1000000
def sc_s_IsPure_L0 : SC := (.seq (.seq (.reg [⟨(some 4), none, (.mov (.t 3))⟩, ⟨(some 5), none, (.fad 1 (.t 1))⟩, ⟨(some 6), none, (.ld none .nil (.t 5))⟩, ⟨(some 7), none, (.len (.t 6))⟩, ⟨(some 8), none, (.bin false .lss (.t 4) (.t 7))⟩]) (.cond (.t 8) .skip (.exit 0))) (.seq (.block 1 (.seq (.dreg [⟨⟨(some 11), none, (.fad 1 (.t 1))⟩, false, false⟩, ⟨⟨(some 12), none, (.ld none .nil (.t 11))⟩, false, false⟩, ⟨⟨(some 13), none, (.mov (.t 3))⟩, false, false⟩, ⟨⟨(some 14), none, (.idx 1 (.t 12) (.t 13))⟩, false, false⟩, ⟨⟨(some 15), none, (.ld none (.int .i64 0) (.t 14))⟩, false, false⟩, ⟨⟨(some 16), none, (.call 156 [(.t 15)])⟩, false, false⟩, ⟨⟨(some 17), none, (.fad 1 (.t 1))⟩, false, false⟩, ⟨⟨(some 18), none, (.ld none .nil (.t 17))⟩, false, false⟩, ⟨⟨(some 19), none, (.idx 1 (.t 18) (.c (.int .i64 0)))⟩, false, false⟩, ⟨⟨(some 20), none, (.ld none (.int .i64 0) (.t 19))⟩, false, false⟩, ⟨⟨(some 21), none, (.call 156 [(.t 20)])⟩, false, false⟩, ⟨⟨(some 22), none, (.bin false .neq (.t 16) (.t 21))⟩, false, false⟩]) (.cond (.t 22) (.seq (.reg [⟨(some 2), none, (.mov (.c (.bool false)))⟩]) .ret) .skip))) (.reg [⟨(some 9), none, (.mov (.t 3))⟩, ⟨(some 10), none, (.bin false .add (.t 9) (.c (.int .i64 1)))⟩, ⟨(some 3), none, (.mov (.t 10))⟩])))
def sc_s_IsPure : SC := (.seq (.reg [⟨(some 1), none, (.box (.t 0))⟩, ⟨(some 2), none, (.mov (.c (.bool false)))⟩]) (.seq (.seq (.reg [⟨(some 3), none, (.mov (.c (.int .i64 1)))⟩]) (.block 0 (.loop sc_s_IsPure_L0))) (.seq (.reg [⟨(some 23), none, (.ld (some 2) .undef (.t 1))⟩, ⟨(some 24), none, (.call 24 [(.t 23)])⟩, ⟨(some 2), none, (.mov (.t 24))⟩]) .ret)))
theorem code_s_IsPure : fnCode Try.prog [] 41 = some (25, sc_s_IsPure, [(2, none)]) := by kernel_rfl
def allR (l : List Int) : Prop := ∀ x ∈ l, inR x
theorem allR_at {l : List Int} (h : allR l) {j : Nat} (hj : j < l.length) : at0 l j < 9223372036854775808 := (h _ (getD_mem' hj)).2
noncomputable def pureB (n : Int) (l : List Int) : Bool := dec (cplx n l ∧ ∀ k, k < l.length → sz (at0 l k) = sz (at0 l 0))
theorem pureB_not {n : Int} {l : List Int} {k : Nat} (hk : k < l.length) (h : sz (at0 l k) ≠ sz (at0 l 0)) : pureB n l = false := dec_false fun hp => h (hp.2 k hk)
theorem pureB_of {n : Int} {l : List Int} (h : ∀ k, k < l.length → sz (at0 l k) = sz (at0 l 0)) : pureB n l = cplxB n l := by
  rw [Bool.eq_iff_iff, cplxB_iff]
  exact dec_iff.trans ⟨fun a => a.1, fun a => ⟨a, h⟩⟩
open Classical in
noncomputable def F_s_IsPure : List V → Option V := F1 dC fun c => if allR c.2 then some (.bool (pureB c.1 c.2)) else none
theorem fn_s_IsPure : FnOk Try.prog 41 F_s_IsPure := by
  have env := ((envNil_ok (P := Try.prog)).add fn_s_l2Size).add fn_s_IsComplex
  refine fn_ok code_s_IsPure mixed env ?_
  intro args r h hb
  obtain ⟨_, ⟨n, l⟩, rfl, h1, h4⟩ := F1_inv h
  cases dC_inv h1
  simp only [Option.ite_none_right_eq_some, Option.some.injEq] at h4
  obtain ⟨hR, rfl⟩ := h4
  have hlen := bnd_eC (hb _ (List.mem_cons_self ..))
  simp only at hlen
  refine ⟨by simp, fun w0 U0 L0 N0 => ?_⟩
  generalize hv : pureB n l = v
  simp -implicitDefEqProofs [sc_s_IsPure]
  refine loopI env mixed (fun k : Nat => [(1, .pt 0 0), (3, .int .i64 (k : Int))]) (fun _ => ([(0, [.int .i64 n, .list 1 (ints l)])], 1)) (fun k => (k ≤ l.length ∨ k = 1) ∧ ∀ j, j < k → j < l.length → sz (at0 l j) = sz (at0 l 0)) (fun k => l.length - k) 1
    ⟨.inr rfl, fun j hj _ => by rw [show j = 0 by omega]⟩ (SubI.slots rfl (by simp)) ?_
  rintro k ⟨hk, hn⟩
  by_cases hlt : k < l.length
  · have r1 := allR_at hR hlt
    have r0 := allR_at hR (show 0 < l.length by omega)
    by_cases he : sz (at0 l k) = sz (at0 l 0)
    · simp -implicitDefEqProofs [sc_s_IsPure_L0, F_s_l2Size, hlt, r0, r1, he]
      repeat' (first | omega | apply And.intro | intro _)
      refine Again.of (k + 1) ⟨by omega, fun j hj h2 => ?_⟩ (by omega) (SubI.slots rfl (by simp (disch := omega) [wrapI]))
      rcases Nat.lt_succ_iff_lt_or_eq.1 hj with h1 | rfl
      · exact hn j h1 h2
      · exact he
    · have hv1 : v = false := hv ▸ pureB_not hlt he
      simp -implicitDefEqProofs [sc_s_IsPure_L0, F_s_l2Size, hlt, r0, r1, he, hv1]
      omega
  · have hv1 : cplxB n l = v := by rw [← hv, pureB_of fun j hj => hn j (by omega) hj]
    simp -implicitDefEqProofs [sc_s_IsPure_L0, F_s_IsComplex, hlt, hv1]
end Go.Proofs.Ytmemomfffehnkaa
namespace Go.Proofs.Ytmemomfffehnkaa
open Go Go.RowKit
set_option maxRecDepth 1000000
set_option linter.unusedSimpArgs false
set_option linter.unusedVariables false
set_option maxHeartbeats 1000000
def dU : V → Option Int
  | .int .u64 n => some n
  | _ => none
@[simp] theorem dU_int (n : Int) : dU (.int .u64 n) = some n := rfl
end Go.Proofs.Ytmemomfffehnkaa
namespace Go.Proofs.Ytmemomfffehnkaa
open Go Go.RowKit
set_option maxRecDepth 1000000
set_option linter.unusedSimpArgs false
set_option linter.unusedVariables false
set_option maxHeartbeats 1000000
theorem nodup_len {l : List Int} (h : l.Nodup) (hS : allS l) : l.length ≤ 64 := by
  have := sub_len (m := (List.range 64).map fun (k : Nat) => (k : Int)) h fun x hx => by
    refine List.mem_map.2 ⟨x.toNat, ?_, ?_⟩
    · have := hS x hx; rw [List.mem_range]; unfold isS at this; omega
    · exact Int.toNat_of_nonneg (hS x hx).1
  simpa using this
end Go.Proofs.Ytmemomfffehnkaa
namespace Go.Proofs.Ytmemomfffehnkaa
open Go Go.RowKit
set_option maxRecDepth 1000000
set_option linter.unusedSimpArgs false
set_option linter.unusedVariables false
set_option maxHeartbeats 1000000
def sc_s_l11Fine : SC := (.seq (.reg [⟨(some 4), none, (.mov (.c (.bool false)))⟩]) (.seq (.reg [⟨(some 5), none, (.mov (.t 0))⟩, ⟨(some 6), none, (.call 132 [(.t 5), (.c (.int .i64 0)), (.c (.int .i64 1000))])⟩, ⟨(some 7), none, (.mov (.t 6))⟩, ⟨(some 8), (some (7, true)), (.mov (.t 1))⟩, ⟨(some 9), (some (7, true)), (.call 132 [(.t 8), (.c (.int .i64 1)), (.c (.int .i64 6))])⟩, ⟨(some 10), none, (.pick (.t 7) (.t 9) (.c (.bool false)))⟩, ⟨(some 4), none, (.mov (.t 10))⟩]) .ret))
theorem code_s_l11Fine : fnCode Try.prog [] 168 = some (11, sc_s_l11Fine, [(4, none)]) := by kernel_rfl
noncomputable def F_s_l11Fine : List V → Option V := F2 dI dI fun m k => some (.bool (dec (0 ≤ m ∧ m ≤ 1000 ∧ 1 ≤ k ∧ k ≤ 6)))
theorem fn_s_l11Fine : FnOk Try.prog 168 F_s_l11Fine := by
  have env := (envNil_ok (P := Try.prog)).add fn_s_l1In
  refine fn_ok code_s_l11Fine mixed env ?_
  intro args r h hb
  obtain ⟨_, _, m, k, rfl, h1, h2, h4⟩ := F2_inv h
  cases dI_inv h1
  cases dI_inv h2
  cases h4
  clear h h1 h2 hb
  refine ⟨by simp, fun w0 U0 L0 N0 => ?_⟩
  by_cases a1 : 0 ≤ m <;> by_cases a2 : m ≤ 1000 <;> by_cases a3 : 1 ≤ k <;> by_cases a4 : k ≤ 6
  all_goals simp -implicitDefEqProofs [sc_s_l11Fine, dec, a1, a2, a3, a4, F_s_l1In]
def sc_i_cascadeFits : SC := (.seq (.reg [⟨(some 4), none, (.mov (.c (.bool false)))⟩]) (.seq (.reg [⟨(some 5), none, (.mov (.t 0))⟩, ⟨(some 6), none, (.bin false .geq (.t 5) (.c (.int .i64 0)))⟩, ⟨(some 7), none, (.mov (.t 6))⟩, ⟨(some 8), (some (7, true)), (.mov (.t 0))⟩, ⟨(some 9), (some (7, true)), (.bin false .leq (.t 8) (.c (.int .i64 1000)))⟩, ⟨(some 10), none, (.pick (.t 7) (.t 9) (.c (.bool false)))⟩, ⟨(some 11), none, (.mov (.t 10))⟩, ⟨(some 12), (some (11, true)), (.mov (.t 1))⟩, ⟨(some 13), (some (11, true)), (.bin false .geq (.t 12) (.c (.int .i64 1)))⟩, ⟨(some 14), none, (.pick (.t 11) (.t 13) (.c (.bool false)))⟩, ⟨(some 15), none, (.mov (.t 14))⟩, ⟨(some 16), (some (15, true)), (.mov (.t 1))⟩, ⟨(some 17), (some (15, true)), (.bin false .leq (.t 16) (.c (.int .i64 6)))⟩, ⟨(some 18), none, (.pick (.t 15) (.t 17) (.c (.bool false)))⟩, ⟨(some 4), none, (.mov (.t 18))⟩]) .ret))
theorem code_i_cascadeFits : fnCode Try.prog [] 165 = some (19, sc_i_cascadeFits, [(4, none)]) := by kernel_rfl
noncomputable def F_i_cascadeFits : List V → Option V := F2 dI dI fun m k => some (.bool (dec (0 ≤ m ∧ m ≤ 1000 ∧ 1 ≤ k ∧ k ≤ 6)))
theorem fn_i_cascadeFits : FnOk Try.prog 165 F_i_cascadeFits := by
  have env := envNil_ok (P := Try.prog)
  refine fn_ok code_i_cascadeFits mixed env ?_
  intro args r h hb
  obtain ⟨_, _, m, k, rfl, h1, h2, h4⟩ := F2_inv h
  cases dI_inv h1
  cases dI_inv h2
  cases h4
  clear h h1 h2 hb
  refine ⟨by simp, fun w0 U0 L0 N0 => ?_⟩
  by_cases a1 : 0 ≤ m <;> by_cases a2 : m ≤ 1000 <;> by_cases a3 : 1 ≤ k <;> by_cases a4 : k ≤ 6
  all_goals simp -implicitDefEqProofs [sc_i_cascadeFits, dec, a1, a2, a3, a4]
/-- The least a from a place on whose next count is above m. -/
def casF (m : Int) (i : Nat) : Nat → Nat → Nat
  | 0, a => a
  | f + 1, a => if cwM ((a : Int) + 1) i ≤ m then casF m i f (a + 1) else a
def fuC (i : Nat) : Nat := if i = 1 then 1000 else 60
theorem cw_top : ∀ i : Nat, i < 7 → (decide (i = 0) || decide (1000 < cwM ((i : Int) + (fuC i : Int)) i)) = true := by decide +kernel
theorem cw_pos : ∀ i : Nat, i < 7 → ∀ a : Nat, a < 67 → (decide (0 ≤ cwM (a : Int) i) && (decide (a < i) || decide (1 ≤ cwM (a : Int) i)) && decide (cwM (a : Int) i < 1000000000000)) = true := by decide +kernel
theorem cw_one {a : Int} (h0 : 0 ≤ a) (h : a ≤ 4000) : cwM a 1 = a := by
  have e : cwM a 1 = IntKind.i64.wrap ((IntKind.i64.wrap (1 * (a - ((0 : Nat) : Int)))).tdiv (((0 : Nat) : Int) + 1)) := rfl
  rw [e]
  have w1 : IntKind.i64.wrap (1 * (a - ((0 : Nat) : Int))) = a := by rw [wrapI _ (by omega) (by omega)]; omega
  have e1 : ((0 : Nat) : Int) + 1 = 1 := rfl
  rw [w1, e1, Int.tdiv_one]
  exact wrapI _ (by omega) (by omega)
theorem cw_ok {i a : Nat} (hi1 : 1 ≤ i) (hi : i < 7) (ha : a ≤ i + fuC i) : 0 ≤ cwM (a : Int) i ∧ (i ≤ a → 1 ≤ cwM (a : Int) i) ∧ cwM (a : Int) i < 1000000000000 := by
  by_cases h1 : i = 1
  · subst h1
    have h : fuC 1 = 1000 := rfl
    rw [cw_one (by omega) (by omega)]
    omega
  · have h : fuC i = 60 := if_neg h1
    have := cw_pos i hi a (by omega)
    simp only [Bool.and_eq_true, Bool.or_eq_true, decide_eq_true_eq] at this
    omega
theorem cw_big {i : Nat} (hi1 : 1 ≤ i) (hi : i < 7) : 1000 < cwM ((i : Int) + (fuC i : Int)) i := by
  have := cw_top i hi
  simp only [Bool.or_eq_true, decide_eq_true_eq] at this
  omega
theorem cwV_M {n : Int} {k : Nat} (h : (k : Int) ≤ n) : cwV n (k : Int) = cwM n k := by
  have e : cwV n (k : Int) = cwM n (k : Int).toNat := if_pos ⟨by omega, h⟩
  rw [e, Int.toNat_natCast]
/-- The upper number of a cascade's step. -/
def casA (m : Int) (i : Nat) : Nat := casF m i (fuC i) i
/-- The upper numbers of the cascade of m from i on. -/
def casL : Nat → Int → List Int
  | 0, _ => []
  | i + 1, m => if 0 < m then (casA m (i + 1) : Int) :: casL i (m - cwM (casA m (i + 1) : Int) (i + 1)) else []
theorem casF_ok {m : Int} {i : Nat} (hi1 : 1 ≤ i) (hi : i < 7) (hm : m ≤ 1000) : ∀ f a : Nat, 1 ≤ f → a + f = i + fuC i → (a = i ∧ 1 ≤ m ∨ i ≤ a ∧ cwM (a : Int) i ≤ m) →
    i ≤ casF m i f a ∧ casF m i f a ≤ i + fuC i ∧ (casF m i f a = i ∧ 1 ≤ m ∨ cwM (casF m i f a : Int) i ≤ m)
  | 0, a, h, _, _ => by omega
  | f + 1, a, h, e, hc => by
    unfold casF
    split
    · rename_i hle
      have hf : f ≠ 0 := by
        intro h0
        have hb := cw_big hi1 hi
        have e2 : (a : Int) + 1 = (i : Int) + (fuC i : Int) := by omega
        rw [e2] at hle
        omega
      exact casF_ok hi1 hi hm f (a + 1) (by omega) (by omega) (.inr ⟨by omega, by simpa using hle⟩)
    · rcases hc with ⟨rfl, h1⟩ | ⟨h1, h2⟩
      · exact ⟨by omega, by omega, .inl ⟨rfl, h1⟩⟩
      · exact ⟨h1, by omega, .inr h2⟩
theorem cw_self : ∀ i : Nat, i < 7 → cwM (i : Int) i = 1 := by decide +kernel
theorem casA_ok {m : Int} {i : Nat} (hi1 : 1 ≤ i) (hi : i < 7) (hm0 : 0 < m) (hm : m ≤ 1000) : i ≤ casA m i ∧ casA m i ≤ i + fuC i ∧ 1 ≤ cwM (casA m i : Int) i ∧ cwM (casA m i : Int) i ≤ m := by
  have h1 : 1 ≤ fuC i := by unfold fuC; split <;> omega
  obtain ⟨a, b, c⟩ := casF_ok hi1 hi hm (fuC i) i h1 rfl (.inl ⟨rfl, by omega⟩)
  have hp := cw_ok hi1 hi (a := casA m i) b
  refine ⟨a, b, hp.2.1 a, ?_⟩
  rcases c with ⟨e, hm1⟩ | c
  · have e2 : casA m i = i := e
    rw [e2, cw_self i hi]; omega
  · exact c
theorem casL_len : ∀ (k : Nat) (m : Int), (casL k m).length ≤ k
  | 0, _ => by simp [casL]
  | k + 1, m => by
    unfold casL
    split
    · have := casL_len k (m - cwM (casA m (k + 1) : Int) (k + 1))
      simp only [List.length_cons]; omega
    · simp
theorem fuC_le (i : Nat) : fuC i ≤ 1000 := by unfold fuC; split <;> omega
theorem casL_rng : ∀ (k : Nat) (m : Int), k < 7 → m ≤ 1000 → ∀ x ∈ casL k m, 0 ≤ x ∧ x ≤ 1006
  | 0, _, _, _ => by simp [casL]
  | k + 1, m, hk, hm => by
    unfold casL
    split
    · rename_i h0
      obtain ⟨a, b, c, d⟩ := casA_ok (i := k + 1) (by omega) hk h0 hm
      have := fuC_le (k + 1)
      intro x hx
      simp only [List.mem_cons] at hx
      rcases hx with rfl | hx
      · omega
      · exact casL_rng k _ (by omega) (by omega) x hx
    · simp
theorem ints_snoc2 (l : List Int) (x : Int) : ints l ++ [V.int .i64 x] = ints (l ++ [x]) := by simp [ints]
end Go.Proofs.Ytmemomfffehnkaa
namespace Go.Proofs.Ytmemomfffehnkaa
open Go Go.RowKit
set_option maxRecDepth 1000000
set_option linter.unusedSimpArgs false
set_option linter.unusedVariables false
set_option maxHeartbeats 1000000
def sc_s_l11Cascade_L2 : SC := (.seq (.seq (.reg [⟨(some 19), none, (.mov (.t 7))⟩, ⟨(some 20), none, (.bin false .add (.t 19) (.c (.int .i64 1)))⟩, ⟨(some 21), none, (.mov (.t 6))⟩, ⟨(some 22), none, (.call 170 [(.t 20), (.t 21)])⟩, ⟨(some 23), none, (.mov (.t 0))⟩, ⟨(some 24), none, (.bin false .leq (.t 22) (.t 23))⟩]) (.cond (.t 24) .skip (.exit 2))) (.block 3 (.reg [⟨(some 25), none, (.mov (.t 7))⟩, ⟨(some 26), none, (.bin false .add (.t 25) (.c (.int .i64 1)))⟩, ⟨(some 7), none, (.mov (.t 26))⟩])))
def sc_s_l11Cascade_L0 : SC := (.seq (.seq (.reg [⟨(some 10), none, (.mov (.t 6))⟩, ⟨(some 11), none, (.bin false .geq (.t 10) (.c (.int .i64 1)))⟩, ⟨(some 12), none, (.mov (.t 11))⟩, ⟨(some 13), (some (12, true)), (.mov (.t 0))⟩, ⟨(some 14), (some (12, true)), (.bin false .gtr (.t 13) (.c (.int .i64 0)))⟩, ⟨(some 15), none, (.pick (.t 12) (.t 14) (.c (.bool false)))⟩]) (.cond (.t 15) .skip (.exit 0))) (.seq (.block 1 (.seq (.reg [⟨(some 18), none, (.mov (.t 6))⟩, ⟨(some 7), none, (.mov (.t 18))⟩]) (.seq (.block 2 (.loop sc_s_l11Cascade_L2)) (.seq (.reg [⟨(some 27), none, (.mov (.t 5))⟩, ⟨(some 28), none, (.mov (.t 7))⟩, ⟨(some 29), none, (.mks 1 1 [(.int .i64 0)] [(0, (1, (.t 28)))])⟩, ⟨(some 30), none, (.app 1 8 (.t 27) (.t 29))⟩, ⟨(some 5), none, (.mov (.t 30))⟩]) (.reg [⟨(some 31), none, (.mov (.t 0))⟩, ⟨(some 32), none, (.mov (.t 7))⟩, ⟨(some 33), none, (.mov (.t 6))⟩, ⟨(some 34), none, (.call 170 [(.t 32), (.t 33)])⟩, ⟨(some 35), none, (.bin false .sub (.t 31) (.t 34))⟩, ⟨(some 0), none, (.mov (.t 35))⟩]))))) (.reg [⟨(some 16), none, (.mov (.t 6))⟩, ⟨(some 17), none, (.bin false .sub (.t 16) (.c (.int .i64 1)))⟩, ⟨(some 6), none, (.mov (.t 17))⟩])))
def sc_s_l11Cascade : SC := (.seq (.reg [⟨(some 4), none, (.mov (.c .nil))⟩]) (.seq (.reg [⟨(some 8), none, (.mks 0 1 [] [])⟩, ⟨(some 5), none, (.mov (.t 8))⟩]) (.seq (.seq (.reg [⟨(some 9), none, (.mov (.t 1))⟩, ⟨(some 6), none, (.mov (.t 9))⟩]) (.block 0 (.loop sc_s_l11Cascade_L0))) (.seq (.reg [⟨(some 36), none, (.mov (.t 5))⟩, ⟨(some 4), none, (.mov (.t 36))⟩]) .ret))))
theorem code_s_l11Cascade : fnCode Try.prog [] 169 = some (37, sc_s_l11Cascade, [(4, none)]) := by kernel_rfl
noncomputable def F_s_l11Cascade : List V → Option V := F2 dI dI fun m k => @ite _ (0 ≤ m ∧ m ≤ 1000 ∧ 1 ≤ k ∧ k ≤ 6) (Classical.propDecidable _) (some (.own 1 (ints (casL k.toNat m)))) none
set_option maxHeartbeats 4000000
theorem fn_s_l11Cascade : FnOk Try.prog 169 F_s_l11Cascade := by
  have env := (envNil_ok (P := Try.prog)).add fn_s_l11Choose
  refine fn_ok code_s_l11Cascade mixed env ?_
  intro args r h hb
  obtain ⟨_, _, m, k0, rfl, h1, h2, h4⟩ := F2_inv h
  cases dI_inv h1
  cases dI_inv h2
  simp only [Option.ite_none_right_eq_some, Option.some.injEq] at h4
  obtain ⟨⟨m0, m1, k1, k6⟩, rfl⟩ := h4
  clear h h1 h2 hb
  refine ⟨by simp, fun w0 U0 L0 N0 => ?_⟩
  obtain ⟨k, rfl⟩ : ∃ k : Nat, k0 = k := ⟨k0.toNat, by omega⟩
  rw [Int.toNat_natCast]

  simp -implicitDefEqProofs [sc_s_l11Cascade]
  refine loopI env mixed (fun x : Nat × Int × List Int => [(0, .int .i64 x.2.1), (5, .sl 0 1 0 x.2.2.length), (6, .int .i64 (x.1 : Int))]) (fun x => ([(0, ints x.2.2)], 1))
    (fun x => x.1 ≤ k ∧ 0 ≤ x.2.1 ∧ x.2.1 ≤ 1000 ∧ x.2.2 ++ casL x.1 x.2.1 = casL k m ∧ x.2.2.length + x.1 = k) (fun x => x.1) (k, m, []) (by simpa using ⟨m0, m1⟩) ?_ ?_
  · exact SubI.slots (by simp) (by simp)
  rintro ⟨i, x, out⟩ ⟨hik, x0, x1, hout, hlen⟩
  simp only at hik x0 x1 hout hlen
  cases i with
  | zero =>
    simp only [casL, List.append_nil] at hout
    subst hout
    simp -implicitDefEqProofs [sc_s_l11Cascade_L0, freeOk]
  | succ i =>
    have hi1 : (1 : Int) ≤ (i : Int) + 1 := by omega
    by_cases hx : 0 < x
    · obtain ⟨a1, a2, a3, a4⟩ := casA_ok (i := i + 1) (by omega) (by omega) hx x1
      have hstep : casL (i + 1) x = (casA x (i + 1) : Int) :: casL i (x - cwM (casA x (i + 1) : Int) (i + 1)) := by
        rw [casL, if_pos hx]
      have hfu := fuC_le (i + 1)
      have hfu1 : 1 ≤ fuC (i + 1) := by unfold fuC; split <;> omega
      have hcA : casF x (i + 1) (fuC (i + 1)) (i + 1) = casA x (i + 1) := rfl
      have hbig := cw_big (i := i + 1) (by omega) (by omega)
      have hF1 : ∀ f, casF x (i + 1) 0 f = f := fun f => rfl
      have hFs : ∀ f a, casF x (i + 1) (f + 1) a = if cwM ((a : Int) + 1) (i + 1) ≤ x then casF x (i + 1) f (a + 1) else a := fun f a => rfl
      simp -implicitDefEqProofs [sc_s_l11Cascade_L0, freeOk, hi1, hx]
      refine loopQ env mixed (fun y : Nat × Nat => [(0, .int .i64 x), (5, .sl 0 1 0 out.length), (6, .int .i64 ((i : Int) + 1)), (7, .int .i64 (y.2 : Int))]) (fun _ => ([(0, ints out)], 1))
        (fun y => 1 ≤ y.1 ∧ y.2 + y.1 = i + 1 + fuC (i + 1) ∧ i + 1 ≤ y.2 ∧ casF x (i + 1) y.1 y.2 = casA x (i + 1)) (fun y => y.1) (fuC (i + 1), i + 1) ⟨hfu1, rfl, Nat.le_refl _, hcA⟩ (SubI.slots rfl (by simp)) ?_
      rintro ⟨f, a⟩ ⟨hf, haf, hai, hc⟩
      simp only at hf haf hai hc
      cases f with
      | zero => omega
      | succ f =>
      rw [hFs] at hc
      have wa : IntKind.i64.wrap ((a : Int) + 1) = (a : Int) + 1 := wrapI _ (by omega) (by omega)
      have hCh : F_s_l11Choose [.int .i64 ((a : Int) + 1), .int .i64 ((i : Int) + 1)] = some (.int .i64 (cwM ((a : Int) + 1) (i + 1))) := by
        have e : cwV ((a : Int) + 1) (((i + 1 : Nat) : Int)) = cwM ((a : Int) + 1) (i + 1) := cwV_M (by omega)
        have e2 : ((i : Int) + 1) = ((i + 1 : Nat) : Int) := by omega
        simp only [F_s_l11Choose, F2_mk, dI_int, Option.bind_some]
        rw [if_pos (by omega), e2, e]
      by_cases hle : cwM ((a : Int) + 1) (i + 1) ≤ x
      · rw [if_pos hle] at hc
        have hf0 : f ≠ 0 := by
          intro h0
          have e2 : (a : Int) + 1 = ((i + 1 : Nat) : Int) + (fuC (i + 1) : Int) := by omega
          rw [e2] at hle
          omega
        simp -implicitDefEqProofs [sc_s_l11Cascade_L2, freeOk, wa, hCh, hle]
        exact Again.of (f, a + 1) ⟨by omega, by omega, by omega, hc⟩ (by simp) (SubI.slots rfl (by simp))
      · rw [if_neg hle] at hc
        simp -implicitDefEqProofs [sc_s_l11Cascade_L2, freeOk, wa, hCh, hle]
        have hlen8 : out.length * 8 ≤ 140737488355328 := by omega
        have hlen9 : (out.length + 1) * 8 ≤ 140737488355328 := by omega
        have hCh2 : F_s_l11Choose [.int .i64 (a : Int), .int .i64 ((i : Int) + 1)] = some (.int .i64 (cwM (a : Int) (i + 1))) := by
          have e : cwV (a : Int) (((i + 1 : Nat) : Int)) = cwM (a : Int) (i + 1) := cwV_M (by omega)
          have e2 : ((i : Int) + 1) = ((i + 1 : Nat) : Int) := by omega
          simp only [F_s_l11Choose, F2_mk, dI_int, Option.bind_some]
          rw [if_pos (by omega), e2, e]
        rw [hc] at hCh2
        have wx : IntKind.i64.wrap (x - cwM (casA x (i + 1) : Int) (i + 1)) = x - cwM (casA x (i + 1) : Int) (i + 1) := wrapI _ (by omega) (by omega)
        subst hc
        refine SubQ.of (l1 := [(0, .int .i64 x), (5, .sl 0 1 0 out.length), (6, .int .i64 ((i : Int) + 1)), (7, .int .i64 (casA x (i + 1) : Int))]) (s1 := ([(0, ints out)], 1)) (SubI.slots rfl (by simp)) ?_
        have h3 : (ints out).take out.length = ints out := List.take_of_length_le (by simp)
        have wi : IntKind.i64.wrap ((i : Int) + 1 - 1) = (i : Int) := by rw [wrapI _ (by omega) (by omega)]; omega
        have wi2 : IntKind.i64.wrap (i : Int) = (i : Int) := wrapI _ (by omega) (by omega)
        generalize cwM (casA x (i + 1) : Int) (i + 1) = c at *
        generalize casA x (i + 1) = a at *
        simp -implicitDefEqProofs [freeOk, hlen8, hlen9, h3, hCh2, wx, wi]
        repeat' (first | omega | apply And.intro)
        refine Again.of (i, x - c, out ++ [(a : Int)]) ⟨by omega, by dsimp only; omega, by dsimp only; omega, ?_, ?_⟩ (by simp) ?_
        · rw [← hout, hstep]; simp
        · simp; omega
        · refine SubI.ren (fun m => if m = 0 then some 2 else none) ?_ ?_ ?_ (by simp) (by simp)
          · simp [renV, ren1, wi2]
          · simp [renL, ren1]
            rw [ints_snoc2]
          · intro n hn
            simp only at hn
            rw [if_neg (by omega)]
    · have e0 : casL (i + 1) x = [] := by rw [casL, if_neg hx]
      rw [e0, List.append_nil] at hout
      subst hout
      simp -implicitDefEqProofs [sc_s_l11Cascade_L0, freeOk, hi1, hx]
end Go.Proofs.Ytmemomfffehnkaa
namespace Go.Proofs.Ytmemomfffehnkaa
open Go Go.RowKit
set_option maxRecDepth 1000000
set_option linter.unusedSimpArgs false
set_option linter.unusedVariables false
set_option maxHeartbeats 1000000
def sc_i_CascadeOf_L2 : SC := (.seq (.seq (.reg [⟨(some 22), none, (.mov (.t 7))⟩, ⟨(some 23), none, (.bin false .add (.t 22) (.c (.int .i64 1)))⟩, ⟨(some 24), none, (.mov (.t 6))⟩, ⟨(some 25), none, (.call 167 [(.t 23), (.t 24)])⟩, ⟨(some 26), none, (.mov (.t 0))⟩, ⟨(some 27), none, (.bin false .leq (.t 25) (.t 26))⟩]) (.cond (.t 27) .skip (.exit 2))) (.block 3 (.reg [⟨(some 28), none, (.mov (.t 7))⟩, ⟨(some 29), none, (.bin false .add (.t 28) (.c (.int .i64 1)))⟩, ⟨(some 7), none, (.mov (.t 29))⟩])))
def sc_i_CascadeOf_L0 : SC := (.seq (.seq (.reg [⟨(some 13), none, (.mov (.t 6))⟩, ⟨(some 14), none, (.bin false .geq (.t 13) (.c (.int .i64 1)))⟩, ⟨(some 15), none, (.mov (.t 14))⟩, ⟨(some 16), (some (15, true)), (.mov (.t 0))⟩, ⟨(some 17), (some (15, true)), (.bin false .gtr (.t 16) (.c (.int .i64 0)))⟩, ⟨(some 18), none, (.pick (.t 15) (.t 17) (.c (.bool false)))⟩]) (.cond (.t 18) .skip (.exit 0))) (.seq (.block 1 (.seq (.reg [⟨(some 21), none, (.mov (.t 6))⟩, ⟨(some 7), none, (.mov (.t 21))⟩]) (.seq (.block 2 (.loop sc_i_CascadeOf_L2)) (.seq (.reg [⟨(some 30), none, (.mov (.t 5))⟩, ⟨(some 31), none, (.mov (.t 7))⟩, ⟨(some 32), none, (.mks 1 1 [(.int .i64 0)] [(0, (1, (.t 31)))])⟩, ⟨(some 33), none, (.app 1 8 (.t 30) (.t 32))⟩, ⟨(some 5), none, (.mov (.t 33))⟩]) (.reg [⟨(some 34), none, (.mov (.t 0))⟩, ⟨(some 35), none, (.mov (.t 7))⟩, ⟨(some 36), none, (.mov (.t 6))⟩, ⟨(some 37), none, (.call 167 [(.t 35), (.t 36)])⟩, ⟨(some 38), none, (.bin false .sub (.t 34) (.t 37))⟩, ⟨(some 0), none, (.mov (.t 38))⟩]))))) (.reg [⟨(some 19), none, (.mov (.t 6))⟩, ⟨(some 20), none, (.bin false .sub (.t 19) (.c (.int .i64 1)))⟩, ⟨(some 6), none, (.mov (.t 20))⟩])))
def sc_i_CascadeOf : SC := (.seq (.reg [⟨(some 4), none, (.mov (.c .nil))⟩]) (.seq (.seq (.reg [⟨(some 8), none, (.mov (.t 0))⟩, ⟨(some 9), none, (.mov (.t 1))⟩, ⟨(some 10), none, (.call 165 [(.t 8), (.t 9)])⟩, ⟨(some 11), none, (.un .not (.t 10))⟩]) (.cond (.t 11) (.seq (.reg [⟨(some 4), none, (.mov (.c .nil))⟩]) .ret) .skip)) (.seq (.reg [⟨(some 5), none, (.mov (.c .nil))⟩]) (.seq (.seq (.reg [⟨(some 12), none, (.mov (.t 1))⟩, ⟨(some 6), none, (.mov (.t 12))⟩]) (.block 0 (.loop sc_i_CascadeOf_L0))) (.seq (.reg [⟨(some 39), none, (.mov (.t 5))⟩, ⟨(some 4), none, (.mov (.t 39))⟩]) .ret)))))
theorem code_i_CascadeOf : fnCode Try.prog [] 166 = some (40, sc_i_CascadeOf, [(4, none)]) := by kernel_rfl
noncomputable def F_i_CascadeOf : List V → Option V := F2 dI dI fun m k => @ite _ (0 ≤ m ∧ m ≤ 1000 ∧ 1 ≤ k ∧ k ≤ 6) (Classical.propDecidable _) (some (.own 1 (ints (casL k.toNat m)))) none
set_option maxHeartbeats 4000000
theorem fn_i_CascadeOf : FnOk Try.prog 166 F_i_CascadeOf := by
  have env := ((envNil_ok (P := Try.prog)).add fn_i_cascadeFits).add fn_i_chooseAny
  refine fn_ok code_i_CascadeOf mixed env ?_
  intro args r h hb
  obtain ⟨_, _, m, k0, rfl, h1, h2, h4⟩ := F2_inv h
  cases dI_inv h1
  cases dI_inv h2
  simp only [Option.ite_none_right_eq_some, Option.some.injEq] at h4
  obtain ⟨⟨m0, m1, k1, k6⟩, rfl⟩ := h4
  clear h h1 h2 hb
  refine ⟨by simp, fun w0 U0 L0 N0 => ?_⟩
  obtain ⟨k, rfl⟩ : ∃ k : Nat, k0 = k := ⟨k0.toNat, by omega⟩
  rw [Int.toNat_natCast]
  have hFit : F_i_cascadeFits [.int .i64 m, .int .i64 (k : Int)] = some (.bool true) := by
    simp only [F_i_cascadeFits, F2_mk, dI_int, Option.bind_some]
    rw [dec_true ⟨m0, m1, k1, k6⟩]
  simp -implicitDefEqProofs [sc_i_CascadeOf, hFit]
  refine loopI env mixed (fun x : Nat × Int × List Int => [(0, .int .i64 x.2.1), (5, .sl 0 1 0 x.2.2.length), (6, .int .i64 (x.1 : Int))]) (fun x => ([(0, ints x.2.2)], 1))
    (fun x => x.1 ≤ k ∧ 0 ≤ x.2.1 ∧ x.2.1 ≤ 1000 ∧ x.2.2 ++ casL x.1 x.2.1 = casL k m ∧ x.2.2.length + x.1 = k) (fun x => x.1) (k, m, []) (by simpa using ⟨m0, m1⟩) ?_ ?_
  · exact SubI.nilN 5 1 (by simp) (SubI.slots rfl (by simp))
  rintro ⟨i, x, out⟩ ⟨hik, x0, x1, hout, hlen⟩
  simp only at hik x0 x1 hout hlen
  cases i with
  | zero =>
    simp only [casL, List.append_nil] at hout
    subst hout
    simp -implicitDefEqProofs [sc_i_CascadeOf_L0, freeOk]
  | succ i =>
    have hi1 : (1 : Int) ≤ (i : Int) + 1 := by omega
    by_cases hx : 0 < x
    · obtain ⟨a1, a2, a3, a4⟩ := casA_ok (i := i + 1) (by omega) (by omega) hx x1
      have hstep : casL (i + 1) x = (casA x (i + 1) : Int) :: casL i (x - cwM (casA x (i + 1) : Int) (i + 1)) := by
        rw [casL, if_pos hx]
      have hfu := fuC_le (i + 1)
      have hfu1 : 1 ≤ fuC (i + 1) := by unfold fuC; split <;> omega
      have hcA : casF x (i + 1) (fuC (i + 1)) (i + 1) = casA x (i + 1) := rfl
      have hbig := cw_big (i := i + 1) (by omega) (by omega)
      have hF1 : ∀ f, casF x (i + 1) 0 f = f := fun f => rfl
      have hFs : ∀ f a, casF x (i + 1) (f + 1) a = if cwM ((a : Int) + 1) (i + 1) ≤ x then casF x (i + 1) f (a + 1) else a := fun f a => rfl
      simp -implicitDefEqProofs [sc_i_CascadeOf_L0, freeOk, hi1, hx]
      refine loopQ env mixed (fun y : Nat × Nat => [(0, .int .i64 x), (5, .sl 0 1 0 out.length), (6, .int .i64 ((i : Int) + 1)), (7, .int .i64 (y.2 : Int))]) (fun _ => ([(0, ints out)], 1))
        (fun y => 1 ≤ y.1 ∧ y.2 + y.1 = i + 1 + fuC (i + 1) ∧ i + 1 ≤ y.2 ∧ casF x (i + 1) y.1 y.2 = casA x (i + 1)) (fun y => y.1) (fuC (i + 1), i + 1) ⟨hfu1, rfl, Nat.le_refl _, hcA⟩ (SubI.slots rfl (by simp)) ?_
      rintro ⟨f, a⟩ ⟨hf, haf, hai, hc⟩
      simp only at hf haf hai hc
      cases f with
      | zero => omega
      | succ f =>
      rw [hFs] at hc
      have wa : IntKind.i64.wrap ((a : Int) + 1) = (a : Int) + 1 := wrapI _ (by omega) (by omega)
      have hCh : F_i_chooseAny [.int .i64 ((a : Int) + 1), .int .i64 ((i : Int) + 1)] = some (.int .i64 (cwM ((a : Int) + 1) (i + 1))) := by
        have e : cwV ((a : Int) + 1) (((i + 1 : Nat) : Int)) = cwM ((a : Int) + 1) (i + 1) := cwV_M (by omega)
        have e2 : ((i : Int) + 1) = ((i + 1 : Nat) : Int) := by omega
        simp only [F_i_chooseAny, F2_mk, dI_int, Option.bind_some]
        rw [if_pos (by omega), e2, e]
      by_cases hle : cwM ((a : Int) + 1) (i + 1) ≤ x
      · rw [if_pos hle] at hc
        have hf0 : f ≠ 0 := by
          intro h0
          have e2 : (a : Int) + 1 = ((i + 1 : Nat) : Int) + (fuC (i + 1) : Int) := by omega
          rw [e2] at hle
          omega
        simp -implicitDefEqProofs [sc_i_CascadeOf_L2, freeOk, wa, hCh, hle]
        exact Again.of (f, a + 1) ⟨by omega, by omega, by omega, hc⟩ (by simp) (SubI.slots rfl (by simp))
      · rw [if_neg hle] at hc
        simp -implicitDefEqProofs [sc_i_CascadeOf_L2, freeOk, wa, hCh, hle]
        have hlen8 : out.length * 8 ≤ 140737488355328 := by omega
        have hlen9 : (out.length + 1) * 8 ≤ 140737488355328 := by omega
        have hCh2 : F_i_chooseAny [.int .i64 (a : Int), .int .i64 ((i : Int) + 1)] = some (.int .i64 (cwM (a : Int) (i + 1))) := by
          have e : cwV (a : Int) (((i + 1 : Nat) : Int)) = cwM (a : Int) (i + 1) := cwV_M (by omega)
          have e2 : ((i : Int) + 1) = ((i + 1 : Nat) : Int) := by omega
          simp only [F_i_chooseAny, F2_mk, dI_int, Option.bind_some]
          rw [if_pos (by omega), e2, e]
        rw [hc] at hCh2
        have wx : IntKind.i64.wrap (x - cwM (casA x (i + 1) : Int) (i + 1)) = x - cwM (casA x (i + 1) : Int) (i + 1) := wrapI _ (by omega) (by omega)
        subst hc
        refine SubQ.of (l1 := [(0, .int .i64 x), (5, .sl 0 1 0 out.length), (6, .int .i64 ((i : Int) + 1)), (7, .int .i64 (casA x (i + 1) : Int))]) (s1 := ([(0, ints out)], 1)) (SubI.slots rfl (by simp)) ?_
        have h3 : (ints out).take out.length = ints out := List.take_of_length_le (by simp)
        have wi : IntKind.i64.wrap ((i : Int) + 1 - 1) = (i : Int) := by rw [wrapI _ (by omega) (by omega)]; omega
        have wi2 : IntKind.i64.wrap (i : Int) = (i : Int) := wrapI _ (by omega) (by omega)
        generalize cwM (casA x (i + 1) : Int) (i + 1) = c at *
        generalize casA x (i + 1) = a at *
        simp -implicitDefEqProofs [freeOk, hlen8, hlen9, h3, hCh2, wx, wi]
        repeat' (first | omega | apply And.intro)
        refine Again.of (i, x - c, out ++ [(a : Int)]) ⟨by omega, by dsimp only; omega, by dsimp only; omega, ?_, ?_⟩ (by simp) ?_
        · rw [← hout, hstep]; simp
        · simp; omega
        · refine SubI.ren (fun m => if m = 0 then some 2 else none) ?_ ?_ ?_ (by simp) (by simp)
          · simp [renV, ren1, wi2]
          · simp [renL, ren1]
            rw [ints_snoc2]
          · intro n hn
            simp only at hn
            rw [if_neg (by omega)]
    · have e0 : casL (i + 1) x = [] := by rw [casL, if_neg hx]
      rw [e0, List.append_nil] at hout
      subst hout
      simp -implicitDefEqProofs [sc_i_CascadeOf_L0, freeOk, hi1, hx]
end Go.Proofs.Ytmemomfffehnkaa
namespace Go.Proofs.Ytmemomfffehnkaa
open Go Go.RowKit
set_option maxRecDepth 1000000
set_option linter.unusedSimpArgs false
set_option linter.unusedVariables false
set_option maxHeartbeats 1000000
/-- The sum of the next counts of a cascade, up to a place. -/
noncomputable def pbI (k : Int) (l : List Int) : Nat → Int
  | 0 => 0
  | j + 1 => IntKind.i64.wrap (pbI k l j + cwV (at0 l j + 1) (k - (j : Int) + 1))
noncomputable def pbV (m k : Int) : Int := @ite _ (0 ≤ m ∧ m ≤ 1000 ∧ 1 ≤ k ∧ k ≤ 6) (Classical.propDecidable _) (pbI k (casL k.toNat m) (casL k.toNat m).length) (-1)
def sc_s_PowerBound_L0 : SC := (.seq (.seq (.reg [⟨(some 15), none, (.mov (.t 7))⟩, ⟨(some 16), none, (.mov (.t 6))⟩, ⟨(some 17), none, (.len (.t 16))⟩, ⟨(some 18), none, (.bin false .lss (.t 15) (.t 17))⟩]) (.cond (.t 18) .skip (.exit 0))) (.seq (.block 1 (.reg [⟨(some 21), none, (.mov (.t 5))⟩, ⟨(some 22), none, (.mov (.t 6))⟩, ⟨(some 23), none, (.mov (.t 7))⟩, ⟨(some 24), none, (.idx 1 (.t 22) (.t 23))⟩, ⟨(some 25), none, (.ld none (.int .i64 0) (.t 24))⟩, ⟨(some 26), none, (.bin false .add (.t 25) (.c (.int .i64 1)))⟩, ⟨(some 27), none, (.mov (.t 1))⟩, ⟨(some 28), none, (.mov (.t 7))⟩, ⟨(some 29), none, (.bin false .sub (.t 27) (.t 28))⟩, ⟨(some 30), none, (.bin false .add (.t 29) (.c (.int .i64 1)))⟩, ⟨(some 31), none, (.call 170 [(.t 26), (.t 30)])⟩, ⟨(some 32), none, (.bin false .add (.t 21) (.t 31))⟩, ⟨(some 5), none, (.mov (.t 32))⟩])) (.reg [⟨(some 19), none, (.mov (.t 7))⟩, ⟨(some 20), none, (.bin false .add (.t 19) (.c (.int .i64 1)))⟩, ⟨(some 7), none, (.mov (.t 20))⟩])))
def sc_s_PowerBound : SC := (.seq (.reg [⟨(some 4), none, (.mov (.c (.int .i64 0)))⟩]) (.seq (.seq (.reg [⟨(some 8), none, (.mov (.t 0))⟩, ⟨(some 9), none, (.mov (.t 1))⟩, ⟨(some 10), none, (.call 168 [(.t 8), (.t 9)])⟩, ⟨(some 11), none, (.un .not (.t 10))⟩]) (.cond (.t 11) (.seq (.reg [⟨(some 4), none, (.mov (.c (.int .i64 (-1))))⟩]) .ret) .skip)) (.seq (.reg [⟨(some 5), none, (.mov (.c (.int .i64 0)))⟩]) (.seq (.reg [⟨(some 12), none, (.mov (.t 0))⟩, ⟨(some 13), none, (.mov (.t 1))⟩, ⟨(some 14), none, (.call 169 [(.t 12), (.t 13)])⟩, ⟨(some 6), none, (.mov (.t 14))⟩]) (.seq (.seq (.reg [⟨(some 7), none, (.mov (.c (.int .i64 0)))⟩]) (.block 0 (.loop sc_s_PowerBound_L0))) (.seq (.reg [⟨(some 33), none, (.mov (.t 5))⟩, ⟨(some 4), none, (.mov (.t 33))⟩]) .ret))))))
theorem code_s_PowerBound : fnCode Try.prog [] 52 = some (34, sc_s_PowerBound, [(4, none)]) := by kernel_rfl
noncomputable def F_s_PowerBound : List V → Option V := F2 dI dI fun m k => some (.int .i64 (pbV m k))
theorem fn_s_PowerBound : FnOk Try.prog 52 F_s_PowerBound := by
  have env := (((envNil_ok (P := Try.prog)).add fn_s_l11Fine).add fn_s_l11Cascade).add fn_s_l11Choose
  refine fn_ok code_s_PowerBound mixed env ?_
  intro args r h hb
  obtain ⟨_, _, m, k0, rfl, h1, h2, h4⟩ := F2_inv h
  cases dI_inv h1
  cases dI_inv h2
  cases h4
  clear h h1 h2 hb
  refine ⟨by simp, fun w0 U0 L0 N0 => ?_⟩
  by_cases hc : 0 ≤ m ∧ m ≤ 1000 ∧ 1 ≤ k0 ∧ k0 ≤ 6
  rotate_left
  · have e : pbV m k0 = -1 := if_neg hc
    have hFit : F_s_l11Fine [.int .i64 m, .int .i64 k0] = some (.bool false) := by
      simp only [F_s_l11Fine, F2_mk, dI_int, Option.bind_some]
      rw [dec_false hc]
    rw [e]
    simp -implicitDefEqProofs [sc_s_PowerBound, hFit]
  have e : pbV m k0 = pbI k0 (casL k0.toNat m) (casL k0.toNat m).length := if_pos hc
  have hFit : F_s_l11Fine [.int .i64 m, .int .i64 k0] = some (.bool true) := by
    simp only [F_s_l11Fine, F2_mk, dI_int, Option.bind_some]
    rw [dec_true hc]
  have hCas : F_s_l11Cascade [.int .i64 m, .int .i64 k0] = some (.own 1 (ints (casL k0.toNat m))) := by
    simp only [F_s_l11Cascade, F2_mk, dI_int, Option.bind_some]
    exact if_pos hc
  rw [e]
  have hlen := casL_len k0.toNat m
  have hrng := casL_rng k0.toNat m (by omega) hc.2.1
  generalize casL k0.toNat m = l at *
  obtain ⟨m0, m1, k1, k6⟩ := hc
  have hs : ∀ j, pbI k0 l (j + 1) = IntKind.i64.wrap (pbI k0 l j + cwV (at0 l j + 1) (k0 - (j : Int) + 1)) := fun j => rfl
  have h0 : pbI k0 l 0 = 0 := rfl
  generalize pbI k0 l = g at *
  simp -implicitDefEqProofs [sc_s_PowerBound, hFit, hCas]
  refine loopI env mixed (fun j : Nat => [(1, .int .i64 k0), (5, .int .i64 (g j)), (6, .sl 0 1 0 l.length), (7, .int .i64 (j : Int))]) (fun _ => ([(0, ints l)], 1)) (fun j => j ≤ l.length) (fun j => l.length - j) 0 (by simp) (SubI.slots rfl (by simp [h0])) ?_
  intro j hj
  by_cases hlt : j < l.length
  · have ha := hrng _ (getD_mem' hlt)
    have w1 : IntKind.i64.wrap (at0 l j + 1) = at0 l j + 1 := wrapI _ (by omega) (by omega)
    have w2 : IntKind.i64.wrap (k0 - (j : Int)) = k0 - (j : Int) := wrapI _ (by omega) (by omega)
    have w3 : IntKind.i64.wrap (k0 - (j : Int) + 1) = k0 - (j : Int) + 1 := wrapI _ (by omega) (by omega)
    have w4 : IntKind.i64.wrap ((j : Int) + 1) = (j : Int) + 1 := wrapI _ (by omega) (by omega)
    have w5 := hs j
    have hCh : F_s_l11Choose [.int .i64 (at0 l j + 1), .int .i64 (k0 - (j : Int) + 1)] = some (.int .i64 (cwV (at0 l j + 1) (k0 - (j : Int) + 1))) := by
      simp only [F_s_l11Choose, F2_mk, dI_int, Option.bind_some]
      exact if_pos (by omega)
    simp -implicitDefEqProofs [sc_s_PowerBound_L0, freeOk, hlt, w1, w2, w3, w4, hCh]
    exact Again.of (j + 1) (by omega) (by omega) (SubI.slots rfl (by simp [w5]))
  · have hk : l.length = j := by omega
    rw [hk]
    generalize g j = a at *
    simp -implicitDefEqProofs [sc_s_PowerBound_L0, freeOk, hk]
def sc_i_PowerBound_L0 : SC := (.seq (.reg [⟨(some 17), none, (.bin false .lss (.t 16) (.t 15))⟩]) (.seq (.cond (.t 17) .skip (.exit 0)) (.seq (.block 1 (.seq (.reg [⟨(some 18), none, (.mov (.t 16))⟩, ⟨(some 19), none, (.idx 1 (.t 14) (.t 16))⟩, ⟨(some 20), none, (.ld none (.int .i64 0) (.t 19))⟩, ⟨(some 6), none, (.mov (.t 18))⟩, ⟨(some 7), none, (.mov (.t 20))⟩]) (.reg [⟨(some 21), none, (.mov (.t 5))⟩, ⟨(some 22), none, (.mov (.t 7))⟩, ⟨(some 23), none, (.bin false .add (.t 22) (.c (.int .i64 1)))⟩, ⟨(some 24), none, (.mov (.t 1))⟩, ⟨(some 25), none, (.mov (.t 6))⟩, ⟨(some 26), none, (.bin false .sub (.t 24) (.t 25))⟩, ⟨(some 27), none, (.bin false .add (.t 26) (.c (.int .i64 1)))⟩, ⟨(some 28), none, (.call 167 [(.t 23), (.t 27)])⟩, ⟨(some 29), none, (.bin false .add (.t 21) (.t 28))⟩, ⟨(some 5), none, (.mov (.t 29))⟩]))) (.reg [⟨(some 30), none, (.bin false .add (.t 16) (.c (.int .i64 1)))⟩, ⟨(some 16), none, (.mov (.t 30))⟩]))))
def sc_i_PowerBound : SC := (.seq (.reg [⟨(some 4), none, (.mov (.c (.int .i64 0)))⟩]) (.seq (.seq (.reg [⟨(some 8), none, (.mov (.t 0))⟩, ⟨(some 9), none, (.mov (.t 1))⟩, ⟨(some 10), none, (.call 165 [(.t 8), (.t 9)])⟩, ⟨(some 11), none, (.un .not (.t 10))⟩]) (.cond (.t 11) (.seq (.reg [⟨(some 4), none, (.mov (.c (.int .i64 (-1))))⟩]) .ret) .skip)) (.seq (.reg [⟨(some 5), none, (.mov (.c (.int .i64 0)))⟩]) (.seq (.seq (.reg [⟨(some 12), none, (.mov (.t 0))⟩, ⟨(some 13), none, (.mov (.t 1))⟩, ⟨(some 14), none, (.call 166 [(.t 12), (.t 13)])⟩, ⟨(some 15), none, (.len (.t 14))⟩, ⟨(some 16), none, (.mov (.c (.int .i64 0)))⟩]) (.block 0 (.loop sc_i_PowerBound_L0))) (.seq (.reg [⟨(some 31), none, (.mov (.t 5))⟩, ⟨(some 4), none, (.mov (.t 31))⟩]) .ret)))))
theorem code_i_PowerBound : fnCode Try.prog [] 51 = some (32, sc_i_PowerBound, [(4, none)]) := by kernel_rfl
noncomputable def F_i_PowerBound : List V → Option V := F2 dI dI fun m k => some (.int .i64 (pbV m k))
theorem fn_i_PowerBound : FnOk Try.prog 51 F_i_PowerBound := by
  have env := (((envNil_ok (P := Try.prog)).add fn_i_cascadeFits).add fn_i_CascadeOf).add fn_i_chooseAny
  refine fn_ok code_i_PowerBound mixed env ?_
  intro args r h hb
  obtain ⟨_, _, m, k0, rfl, h1, h2, h4⟩ := F2_inv h
  cases dI_inv h1
  cases dI_inv h2
  cases h4
  clear h h1 h2 hb
  refine ⟨by simp, fun w0 U0 L0 N0 => ?_⟩
  by_cases hc : 0 ≤ m ∧ m ≤ 1000 ∧ 1 ≤ k0 ∧ k0 ≤ 6
  rotate_left
  · have e : pbV m k0 = -1 := if_neg hc
    have hFit : F_i_cascadeFits [.int .i64 m, .int .i64 k0] = some (.bool false) := by
      simp only [F_i_cascadeFits, F2_mk, dI_int, Option.bind_some]
      rw [dec_false hc]
    rw [e]
    simp -implicitDefEqProofs [sc_i_PowerBound, hFit]
  have e : pbV m k0 = pbI k0 (casL k0.toNat m) (casL k0.toNat m).length := if_pos hc
  have hFit : F_i_cascadeFits [.int .i64 m, .int .i64 k0] = some (.bool true) := by
    simp only [F_i_cascadeFits, F2_mk, dI_int, Option.bind_some]
    rw [dec_true hc]
  have hCas : F_i_CascadeOf [.int .i64 m, .int .i64 k0] = some (.own 1 (ints (casL k0.toNat m))) := by
    simp only [F_i_CascadeOf, F2_mk, dI_int, Option.bind_some]
    exact if_pos hc
  rw [e]
  have hlen := casL_len k0.toNat m
  have hrng := casL_rng k0.toNat m (by omega) hc.2.1
  generalize casL k0.toNat m = l at *
  obtain ⟨m0, m1, k1, k6⟩ := hc
  have hs : ∀ j, pbI k0 l (j + 1) = IntKind.i64.wrap (pbI k0 l j + cwV (at0 l j + 1) (k0 - (j : Int) + 1)) := fun j => rfl
  have h0 : pbI k0 l 0 = 0 := rfl
  generalize pbI k0 l = g at *
  simp -implicitDefEqProofs [sc_i_PowerBound, hFit, hCas]
  refine loopI env mixed (fun j : Nat => [(1, .int .i64 k0), (5, .int .i64 (g j)), (14, .sl 0 1 0 l.length), (15, .int .i64 (l.length : Int)), (16, .int .i64 (j : Int))]) (fun _ => ([(0, ints l)], 1)) (fun j => j ≤ l.length) (fun j => l.length - j) 0 (by simp) (SubI.slots rfl (by simp [h0])) ?_
  intro j hj
  by_cases hlt : j < l.length
  · have ha := hrng _ (getD_mem' hlt)
    have w1 : IntKind.i64.wrap (at0 l j + 1) = at0 l j + 1 := wrapI _ (by omega) (by omega)
    have w2 : IntKind.i64.wrap (k0 - (j : Int)) = k0 - (j : Int) := wrapI _ (by omega) (by omega)
    have w3 : IntKind.i64.wrap (k0 - (j : Int) + 1) = k0 - (j : Int) + 1 := wrapI _ (by omega) (by omega)
    have w4 : IntKind.i64.wrap ((j : Int) + 1) = (j : Int) + 1 := wrapI _ (by omega) (by omega)
    have w5 := hs j
    have hCh : F_i_chooseAny [.int .i64 (at0 l j + 1), .int .i64 (k0 - (j : Int) + 1)] = some (.int .i64 (cwV (at0 l j + 1) (k0 - (j : Int) + 1))) := by
      simp only [F_i_chooseAny, F2_mk, dI_int, Option.bind_some]
      exact if_pos (by omega)
    simp -implicitDefEqProofs [sc_i_PowerBound_L0, freeOk, hlt, w1, w2, w3, w4, hCh]
    exact Again.of (j + 1) (by omega) (by omega) (SubI.slots rfl (by simp [w5]))
  · have hk : l.length = j := by omega
    rw [hk]
    generalize g j = a at *
    simp -implicitDefEqProofs [sc_i_PowerBound_L0, freeOk, hk]
end Go.Proofs.Ytmemomfffehnkaa
