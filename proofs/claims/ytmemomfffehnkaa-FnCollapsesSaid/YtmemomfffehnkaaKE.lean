import Derived.Test.YtmemomfffehnkaaKD
namespace Go.Proofs.Ytmemomfffehnkaa
open Go Go.RowKit
set_option maxRecDepth 1000000
set_option linter.unusedSimpArgs false
set_option linter.unusedVariables false
set_option maxHeartbeats 1000000
def isS (x : Int) : Prop := 0 ≤ x ∧ x < 64
def allS (l : List Int) : Prop := ∀ x ∈ l, isS x
theorem allS_at {l : List Int} (h : allS l) {j : Nat} (hj : j < l.length) : isS (at0 l j) := h _ (getD_mem' hj)
theorem forS {p : Int → Prop} (h : ∀ x : Nat, x < 64 → p x) {a : Int} (ha : isS a) : p a := by
  have := h a.toNat (by have := ha.1; have := ha.2; omega)
  rwa [Int.toNat_of_nonneg ha.1] at this
theorem forS2 {p : Int → Int → Prop} (h : ∀ x : Nat, x < 64 → ∀ y : Nat, y < 64 → p x y) {a b : Int} (ha : isS a) (hb : isS b) : p a b :=
  forS (p := fun a => p a b) (fun x hx => forS (p := fun b => p x b) (fun y hy => h x hx y hy) hb) ha
abbrev band (a b : Int) : Int := bitop .and .i64 a b
abbrev bor (a b : Int) : Int := bitop .or .i64 a b
abbrev bnot (a b : Int) : Int := bitop .andNot .i64 a b
/-- Is the point in the set. -/
def tb (a : Int) (i : Nat) : Prop := band a (2 ^ i) ≠ 0
instance (a : Int) (i : Nat) : Decidable (tb a i) := by unfold tb; infer_instance
theorem isS_nat0 {s : Int} (h : isS s) : ∃ k : Nat, k < 64 ∧ s = k := ⟨s.toNat, by unfold isS at h; omega, by unfold isS at h; omega⟩
theorem band_nat0 (a b : Nat) (ha : a < 64) (hb : b < 64) : band a b = ((a &&& b : Nat) : Int) := bits_and a b (by omega) (by omega)
theorem bor_nat0 (a b : Nat) (ha : a < 64) (hb : b < 64) : bor a b = ((a ||| b : Nat) : Int) := bits_or a b (by omega) (by omega)
theorem bnot_nat0 (a b : Nat) (ha : a < 64) (hb : b < 64) : bnot a b = ((a - (a &&& b) : Nat) : Int) := by
  have key : ∀ a : Nat, a < 64 → ∀ b : Nat, b < 64 → a &&& (2 ^ 64 - 1 - b) = a - (a &&& b) := by decide +kernel
  have e : bnot (a : Int) (b : Int) = IntKind.i64.wrap ((BitVec.ofInt 64 (a : Int) &&& ~~~ BitVec.ofInt 64 (b : Int)).toNat) := rfl
  have h1 : a &&& (2 ^ 64 - 1 - b) ≤ a := Nat.and_le_left
  rw [e, BitVec.ofInt_natCast, BitVec.ofInt_natCast, BitVec.toNat_and, BitVec.toNat_not, BitVec.toNat_ofNat, BitVec.toNat_ofNat]
  rw [Nat.mod_eq_of_lt (by omega), Nat.mod_eq_of_lt (by omega), ← key a ha b hb]
  exact wrapI _ (by omega) (by omega)
theorem tb_nat (x i : Nat) (hx : x < 64) (hi : i < 6) : tb (x : Int) i ↔ x.testBit i = true := by
  have key : ∀ x : Nat, x < 64 → ∀ i : Nat, i < 6 → (x &&& 2 ^ i ≠ 0 ↔ x.testBit i = true) := by decide +kernel
  have hp : 2 ^ i < 64 := Nat.pow_lt_pow_right (n := 6) (by omega) hi
  have e : ((2 : Int) ^ i) = ((2 ^ i : Nat) : Int) := by simp
  rw [← key x hx i hi, tb, e, band_nat0 x (2 ^ i) hx hp]
  omega
theorem and_lt64 {x y : Nat} (hx : x < 64) : x &&& y < 64 := Nat.lt_of_le_of_lt Nat.and_le_left hx
theorem or_lt64 {x y : Nat} (hx : x < 64) (hy : y < 64) : x ||| y < 64 := Nat.or_lt_two_pow (n := 6) hx hy
theorem isS_bor {a b : Int} (ha : isS a) (hb : isS b) : isS (bor a b) := by
  obtain ⟨x, hx, rfl⟩ := isS_nat0 ha
  obtain ⟨y, hy, rfl⟩ := isS_nat0 hb
  rw [bor_nat0 x y hx hy]
  have := or_lt64 hx hy
  unfold isS; omega
theorem isS_bnot {a b : Int} (ha : isS a) (hb : isS b) : isS (bnot a b) := by
  obtain ⟨x, hx, rfl⟩ := isS_nat0 ha
  obtain ⟨y, hy, rfl⟩ := isS_nat0 hb
  rw [bnot_nat0 x y hx hy]
  unfold isS; omega
theorem isS_band {a b : Int} (ha : isS a) (hb : isS b) : isS (band a b) := by
  obtain ⟨x, hx, rfl⟩ := isS_nat0 ha
  obtain ⟨y, hy, rfl⟩ := isS_nat0 hb
  rw [band_nat0 x y hx hy]
  have := and_lt64 (y := y) hx
  unfold isS; omega
theorem isS_pow {i : Nat} (hi : i < 6) : isS (2 ^ i) := by
  have hp : 2 ^ i < 64 := Nat.pow_lt_pow_right (n := 6) (by omega) hi
  have e : ((2 : Int) ^ i) = ((2 ^ i : Nat) : Int) := by simp
  rw [e]
  generalize (2 : Nat) ^ i = p at *
  unfold isS; omega
theorem pow_nat (i : Nat) : ((2 : Int) ^ i) = ((2 ^ i : Nat) : Int) := by simp
theorem pow_lt64 {i : Nat} (hi : i < 6) : 2 ^ i < 64 := Nat.pow_lt_pow_right (n := 6) (by omega) hi
theorem tb_bor {a b : Int} (ha : isS a) (hb : isS b) {i : Nat} (hi : i < 6) : tb (bor a b) i ↔ tb a i ∨ tb b i := by
  obtain ⟨x, hx, rfl⟩ := isS_nat0 ha
  obtain ⟨y, hy, rfl⟩ := isS_nat0 hb
  rw [bor_nat0 x y hx hy, tb_nat _ i (or_lt64 hx hy) hi, tb_nat x i hx hi, tb_nat y i hy hi, Nat.testBit_or, Bool.or_eq_true]
theorem tb_pow {i j : Nat} (hi : i < 6) (hj : j < 6) : tb (2 ^ i) j ↔ i = j := by
  rw [pow_nat, tb_nat _ j (pow_lt64 hi) hj, Nat.testBit_two_pow, decide_eq_true_iff]
theorem tb_zero (i : Nat) (hi : i < 6) : ¬ tb 0 i := by
  rw [show (0 : Int) = ((0 : Nat) : Int) from rfl, tb_nat 0 i (by omega) hi]
  simp
theorem tb_ext {a b : Int} (ha : isS a) (hb : isS b) (h : ∀ i, i < 6 → (tb a i ↔ tb b i)) : a = b := by
  obtain ⟨x, hx, rfl⟩ := isS_nat0 ha
  obtain ⟨y, hy, rfl⟩ := isS_nat0 hb
  congr 1
  apply Nat.eq_of_testBit_eq
  intro i
  by_cases hi : i < 6
  · have := h i hi
    rw [tb_nat x i hx hi, tb_nat y i hy hi] at this
    exact Bool.eq_iff_iff.2 this
  · have h6 : 64 ≤ 2 ^ i := Nat.pow_le_pow_right (n := 2) (i := 6) (by omega) (by omega)
    rw [Nat.testBit_lt_two_pow (by omega), Nat.testBit_lt_two_pow (by omega)]
theorem bor_again {a : Int} (ha : isS a) {i : Nat} (hi : i < 6) : bor (bor a (2 ^ i)) (2 ^ i) = bor a (2 ^ i) := by
  obtain ⟨x, hx, rfl⟩ := isS_nat0 ha
  rw [pow_nat, bor_nat0 x _ hx (pow_lt64 hi), bor_nat0 _ _ (or_lt64 hx (pow_lt64 hi)) (pow_lt64 hi), Nat.or_assoc, Nat.or_self]
theorem pow_le_of_bit {x i : Nat} (h : x.testBit i = true) : 2 ^ i ≤ x := Nat.ge_two_pow_of_testBit h
theorem sub_pow {s : Int} (hs : isS s) {i : Nat} (hi : i < 6) (ht : tb s i) : isS (s - 2 ^ i) := by
  obtain ⟨x, hx, rfl⟩ := isS_nat0 hs
  have := pow_le_of_bit ((tb_nat x i hx hi).1 ht)
  rw [pow_nat]
  generalize (2 : Nat) ^ i = p at *
  unfold isS; omega
theorem pc6 : ∀ n : Nat, n < 64 → pc n = pcF 6 n := by decide +kernel
theorem ridge_key {s g : Int} (hs : isS s) (hg : isS g) (hn : bnot s g ≠ 0) {i : Nat} (hi : i < 6) : (tb s i ∧ band g (s - 2 ^ i) = s - 2 ^ i) ↔ (sizeOf1 (bnot s g) = 1 ∧ tb (bnot s g) i) := by
  obtain ⟨x, hx, rfl⟩ := isS_nat0 hs
  obtain ⟨y, hy, rfl⟩ := isS_nat0 hg
  have key : ∀ x : Nat, x < 64 → ∀ y : Nat, y < 64 → ∀ i : Nat, i < 6 → (x - (x &&& y) == 0 || ((x.testBit i && (y &&& (x - 2 ^ i)) == x - 2 ^ i) == (pcF 6 (x - (x &&& y)) == 1 && (x - (x &&& y)).testBit i))) = true := by decide +kernel
  have k := key x hx y hy i hi
  rw [bnot_nat0 x y hx hy] at hn ⊢
  have hm : x - (x &&& y) < 64 := by omega
  have h0 : (x - (x &&& y) == 0) = false := by
    rw [beq_eq_false_iff_ne]
    omega
  rw [h0, Bool.false_or, beq_iff_eq, Bool.eq_iff_iff] at k
  simp only [Bool.and_eq_true, beq_iff_eq] at k
  rw [tb_nat x i hx hi, tb_nat _ i hm hi, pow_nat]
  have hz : sizeOf1 ((x - (x &&& y) : Nat) : Int) = (pcF 6 (x - (x &&& y)) : Nat) := by
    rw [sizeOf1_set (by omega) (by omega), sz, Int.toNat_natCast, pc6 _ hm]
  rw [hz]
  have hple : x.testBit i = true → 2 ^ i ≤ x := pow_le_of_bit
  generalize (2 : Nat) ^ i = p at *
  constructor
  · rintro ⟨h1, h2⟩
    have hle := hple h1
    have e : ((x : Int) - (p : Int)) = ((x - p : Nat) : Int) := by omega
    rw [e, band_nat0 y _ hy (by omega)] at h2
    have := k.1 ⟨h1, by omega⟩
    exact ⟨by omega, this.2⟩
  · rintro ⟨h1, h2⟩
    have := k.2 ⟨by omega, h2⟩
    have hle := hple this.1
    have e : ((x : Int) - (p : Int)) = ((x - p : Nat) : Int) := by omega
    rw [e, band_nat0 y _ hy (by omega)]
    exact ⟨this.1, by omega⟩
theorem bnot_bits (x y i : Nat) (hx : x < 64) (hy : y < 64) (hi : i < 6) : (x - (x &&& y)).testBit i = (x.testBit i && !y.testBit i) := by
  have key : ∀ x : Nat, x < 64 → ∀ y : Nat, y < 64 → ∀ i : Nat, i < 6 → (x - (x &&& y)).testBit i = (x.testBit i && !y.testBit i) := by decide +kernel
  exact key x hx y hy i hi
theorem tb_bnot {a b : Int} (ha : isS a) (hb : isS b) {i : Nat} (hi : i < 6) : tb (bnot a b) i → tb a i := by
  obtain ⟨x, hx, rfl⟩ := isS_nat0 ha
  obtain ⟨y, hy, rfl⟩ := isS_nat0 hb
  rw [bnot_nat0 x y hx hy, tb_nat _ i (by omega) hi, tb_nat x i hx hi, bnot_bits x y i hx hy hi, Bool.and_eq_true]
  exact fun h => h.1
theorem band_bits {a b : Int} (ha : isS a) (hb : isS b) {i : Nat} (hi : i < 6) : tb (band a b) i ↔ tb a i ∧ tb b i := by
  obtain ⟨x, hx, rfl⟩ := isS_nat0 ha
  obtain ⟨y, hy, rfl⟩ := isS_nat0 hb
  rw [band_nat0 x y hx hy, tb_nat _ i (and_lt64 hx) hi, tb_nat x i hx hi, tb_nat y i hy hi, Nat.testBit_and, Bool.and_eq_true]
theorem bnot_zero {a b : Int} (ha : isS a) (hb : isS b) : bnot a b = 0 ↔ band b a = a := by
  obtain ⟨x, hx, rfl⟩ := isS_nat0 ha
  obtain ⟨y, hy, rfl⟩ := isS_nat0 hb
  have : x &&& y ≤ x := Nat.and_le_left
  rw [bnot_nat0 x y hx hy, band_nat0 y x hy hx, Nat.and_comm y x]
  omega
theorem bnot_zero2 {a b : Int} (ha : isS a) (hb : isS b) : bnot a b = 0 ↔ band a b = a := by
  obtain ⟨x, hx, rfl⟩ := isS_nat0 ha
  obtain ⟨y, hy, rfl⟩ := isS_nat0 hb
  have : x &&& y ≤ x := Nat.and_le_left
  rw [bnot_nat0 x y hx hy, band_nat0 x y hx hy]
  omega
/-- The points of s without which it lies in one of the sets before. -/
def ridge (before : List Int) (s : Int) (i : Nat) : Prop := tb s i ∧ ∃ g ∈ before, band g (s - 2 ^ i) = s - 2 ^ i
open Classical in
noncomputable def newI (before : List Int) (s : Int) : Nat → Int
  | 0 => 0
  | i + 1 => if ridge before s i then bor (newI before s i) (2 ^ i) else newI before s i
theorem newI_isS (before : List Int) (s : Int) : ∀ i, i ≤ 6 → isS (newI before s i) := by
  intro i
  induction i with
  | zero => intro _; simp [newI, isS]
  | succ i ih =>
    intro h
    simp only [newI]
    split
    · exact isS_bor (ih (by omega)) (isS_pow (by omega))
    · exact ih (by omega)
theorem newI_tb (before : List Int) (s : Int) : ∀ i, i ≤ 6 → ∀ j, j < 6 → (tb (newI before s i) j ↔ j < i ∧ ridge before s j) := by
  intro i
  induction i with
  | zero => intro _ j hj; simp [newI, tb_zero j hj]
  | succ i ih =>
    intro h j hj
    simp only [newI]
    split
    · rename_i hr
      rw [tb_bor (newI_isS before s i (by omega)) (isS_pow (by omega)) hj, ih (by omega) j hj, tb_pow (by omega) hj]
      constructor
      · rintro (⟨h1, h2⟩ | rfl)
        · exact ⟨by omega, h2⟩
        · exact ⟨by omega, hr⟩
      · rintro ⟨h1, h2⟩
        rcases Nat.lt_succ_iff_lt_or_eq.1 h1 with h3 | rfl
        · exact .inl ⟨h3, h2⟩
        · exact .inr rfl
    · rename_i hr
      rw [ih (by omega) j hj]
      constructor
      · rintro ⟨h1, h2⟩; exact ⟨by omega, h2⟩
      · rintro ⟨h1, h2⟩
        rcases Nat.lt_succ_iff_lt_or_eq.1 h1 with h3 | rfl
        · exact ⟨h3, h2⟩
        · exact absurd h2 hr
def partI (before : List Int) (s : Int) : Int := before.foldl (fun o g => if sizeOf1 (bnot s g) = 1 then bor o (bnot s g) else o) 0
theorem take_at {l : List Int} {k : Nat} (h : k < l.length) : l.take (k + 1) = l.take k ++ [at0 l k] := by
  rw [at0_eq h, List.take_succ_eq_append_getElem h]
theorem partI_step {l : List Int} {k : Nat} (h : k < l.length) (s : Int) : partI (l.take (k + 1)) s = if sizeOf1 (bnot s (at0 l k)) = 1 then bor (partI (l.take k) s) (bnot s (at0 l k)) else partI (l.take k) s := by
  rw [take_at h, partI, List.foldl_append]
  rfl
theorem allS_take {l : List Int} (h : allS l) (k : Nat) : allS (l.take k) := fun x hx => h x (List.mem_of_mem_take hx)
theorem partI_isS {l : List Int} (hl : allS l) {s : Int} (hs : isS s) : ∀ k, k ≤ l.length → isS (partI (l.take k) s) := by
  intro k
  induction k with
  | zero => intro _; simp [partI, isS]
  | succ k ih =>
    intro h
    rw [partI_step (by omega)]
    split
    · exact isS_bor (ih (by omega)) (isS_bnot hs (allS_at hl (by omega)))
    · exact ih (by omega)
theorem partI_tb {l : List Int} (hl : allS l) {s : Int} (hs : isS s) {i : Nat} (hi : i < 6) : ∀ k, k ≤ l.length → (tb (partI (l.take k) s) i ↔ ∃ j, j < k ∧ sizeOf1 (bnot s (at0 l j)) = 1 ∧ tb (bnot s (at0 l j)) i) := by
  intro k
  induction k with
  | zero => intro _; simp [partI, tb_zero i hi]
  | succ k ih =>
    intro h
    rw [partI_step (by omega)]
    split
    · rename_i h1
      rw [tb_bor (partI_isS hl hs k (by omega)) (isS_bnot hs (allS_at hl (by omega))) hi, ih (by omega)]
      constructor
      · rintro (⟨j, h2, h3⟩ | h2)
        · exact ⟨j, by omega, h3⟩
        · exact ⟨k, by omega, h1, h2⟩
      · rintro ⟨j, h2, h3⟩
        rcases Nat.lt_succ_iff_lt_or_eq.1 h2 with h4 | rfl
        · exact .inl ⟨j, h4, h3⟩
        · exact .inr h3.2
    · rename_i h1
      rw [ih (by omega)]
      constructor
      · rintro ⟨j, h2, h3⟩; exact ⟨j, by omega, h3⟩
      · rintro ⟨j, h2, h3⟩
        rcases Nat.lt_succ_iff_lt_or_eq.1 h2 with h4 | rfl
        · exact ⟨j, h4, h3⟩
        · exact absurd h3.1 h1
theorem new_part {l : List Int} (hl : allS l) {s : Int} (hs : isS s) (hn : ∀ g ∈ l, bnot s g ≠ 0) : newI l s 6 = partI l s := by
  have e : partI l s = partI (l.take l.length) s := by rw [List.take_length]
  rw [e]
  refine tb_ext (newI_isS l s 6 (by omega)) (partI_isS hl hs _ (Nat.le_refl _)) fun i hi => ?_
  rw [newI_tb l s 6 (by omega) i hi, partI_tb hl hs hi _ (Nat.le_refl _)]
  constructor
  · rintro ⟨_, h1, g, h2, h3⟩
    obtain ⟨j, hj, rfl⟩ := getD_mem_iff.1 h2
    exact ⟨j, hj, (ridge_key hs (allS_at hl hj) (hn _ h2) hi).1 ⟨h1, h3⟩⟩
  · rintro ⟨j, hj, h1⟩
    have h2 := (ridge_key hs (allS_at hl hj) (hn _ (getD_mem' hj)) hi).2 h1
    exact ⟨hi, h2.1, _, getD_mem' hj, h2.2⟩
theorem part_sub {l : List Int} (hl : allS l) {s : Int} (hs : isS s) {i : Nat} (hi : i < 6) (h : tb (partI l s) i) : tb s i := by
  have e : partI l s = partI (l.take l.length) s := by rw [List.take_length]
  rw [e, partI_tb hl hs hi _ (Nat.le_refl _)] at h
  obtain ⟨j, hj, _, h2⟩ := h
  exact tb_bnot hs (allS_at hl hj) hi h2
/-- The reference's test of a set behind others, and the program's. -/
def fitsS (l : List Int) (s : Int) : Prop := l = [] ∨ ∀ g ∈ l, band (band g s) (newI l s 6) ≠ newI l s 6
def fitsI (l : List Int) (s : Int) : Prop := ∀ g ∈ l, bnot (partI l s) g ≠ 0
theorem fits_same {l : List Int} (hl : allS l) {s : Int} (hs : isS s) (hn : ∀ g ∈ l, bnot s g ≠ 0) : fitsS l s ↔ fitsI l s := by
  unfold fitsS fitsI
  rw [new_part hl hs hn]
  have hr : isS (partI l s) := by
    have := partI_isS hl hs l.length (Nat.le_refl _)
    rwa [List.take_length] at this
  have key : ∀ g ∈ l, (band (band g s) (partI l s) = partI l s ↔ bnot (partI l s) g = 0) := by
    intro g hg
    rw [bnot_zero hr (hl g hg)]
    have : band (band g s) (partI l s) = band g (partI l s) := by
      refine tb_ext (isS_band (isS_band (hl g hg) hs) hr) (isS_band (hl g hg) hr) fun i hi => ?_
      rw [band_bits (isS_band (hl g hg) hs) hr hi, band_bits (hl g hg) hs hi, band_bits (hl g hg) hr hi]
      constructor
      · rintro ⟨⟨a, _⟩, c⟩; exact ⟨a, c⟩
      · rintro ⟨a, c⟩; exact ⟨⟨a, part_sub hl hs hi c⟩, c⟩
    rw [this]
  constructor
  · rintro (rfl | h) g hg
    · simp at hg
    · exact fun e => h g hg ((key g hg).2 e)
  · intro h
    exact .inr fun g hg e => h g hg ((key g hg).1 e)
end Go.Proofs.Ytmemomfffehnkaa
namespace Go.Proofs.Ytmemomfffehnkaa
open Go Go.RowKit
set_option maxRecDepth 1000000
set_option linter.unusedSimpArgs false
set_option linter.unusedVariables false
set_option maxHeartbeats 1000000
def sc_s_l19New_L2 : SC := (.seq (.seq (.reg [⟨(some 20), none, (.mov (.t 8))⟩, ⟨(some 21), none, (.mov (.t 0))⟩, ⟨(some 22), none, (.len (.t 21))⟩, ⟨(some 23), none, (.bin false .lss (.t 20) (.t 22))⟩]) (.cond (.t 23) .skip (.exit 2))) (.seq (.block 3 (.seq (.reg [⟨(some 26), none, (.mov (.t 0))⟩, ⟨(some 27), none, (.mov (.t 8))⟩, ⟨(some 28), none, (.idx 1 (.t 26) (.t 27))⟩, ⟨(some 29), none, (.ld none (.int .i64 0) (.t 28))⟩, ⟨(some 30), none, (.mov (.t 1))⟩, ⟨(some 31), none, (.mov (.t 7))⟩, ⟨(some 32), none, (.bin false .sub (.t 30) (.t 31))⟩, ⟨(some 33), none, (.bin false .and (.t 29) (.t 32))⟩, ⟨(some 34), none, (.mov (.t 1))⟩, ⟨(some 35), none, (.mov (.t 7))⟩, ⟨(some 36), none, (.bin false .sub (.t 34) (.t 35))⟩, ⟨(some 37), none, (.bin false .eql (.t 33) (.t 36))⟩]) (.cond (.t 37) (.reg [⟨(some 38), none, (.mov (.t 5))⟩, ⟨(some 39), none, (.mov (.t 7))⟩, ⟨(some 40), none, (.bin false .or (.t 38) (.t 39))⟩, ⟨(some 5), none, (.mov (.t 40))⟩]) .skip))) (.reg [⟨(some 24), none, (.mov (.t 8))⟩, ⟨(some 25), none, (.bin false .add (.t 24) (.c (.int .i64 1)))⟩, ⟨(some 8), none, (.mov (.t 25))⟩])))
def sc_s_l19New_L0 : SC := (.seq (.seq (.reg [⟨(some 9), none, (.mov (.t 6))⟩, ⟨(some 10), none, (.bin false .lss (.t 9) (.c (.int .i64 6)))⟩]) (.cond (.t 10) .skip (.exit 0))) (.seq (.block 1 (.seq (.reg [⟨(some 13), none, (.mov (.t 6))⟩, ⟨(some 14), none, (.conv .u64 (.t 13))⟩, ⟨(some 15), none, (.bin false .shl (.c (.int .i64 1)) (.t 14))⟩, ⟨(some 7), none, (.mov (.t 15))⟩]) (.seq (.seq (.reg [⟨(some 16), none, (.mov (.t 1))⟩, ⟨(some 17), none, (.mov (.t 7))⟩, ⟨(some 18), none, (.bin false .and (.t 16) (.t 17))⟩, ⟨(some 19), none, (.bin false .eql (.t 18) (.c (.int .i64 0)))⟩]) (.cond (.t 19) (.exit 1) .skip)) (.seq (.reg [⟨(some 8), none, (.mov (.c (.int .i64 0)))⟩]) (.block 2 (.loop sc_s_l19New_L2)))))) (.reg [⟨(some 11), none, (.mov (.t 6))⟩, ⟨(some 12), none, (.bin false .add (.t 11) (.c (.int .i64 1)))⟩, ⟨(some 6), none, (.mov (.t 12))⟩])))
def sc_s_l19New : SC := (.seq (.reg [⟨(some 4), none, (.mov (.c (.int .i64 0)))⟩]) (.seq (.reg [⟨(some 5), none, (.mov (.c (.int .i64 0)))⟩]) (.seq (.seq (.reg [⟨(some 6), none, (.mov (.c (.int .i64 0)))⟩]) (.block 0 (.loop sc_s_l19New_L0))) (.seq (.reg [⟨(some 41), none, (.mov (.t 5))⟩, ⟨(some 4), none, (.mov (.t 41))⟩]) .ret))))
theorem code_s_l19New : fnCode Try.prog [] 154 = some (42, sc_s_l19New, [(4, none)]) := by kernel_rfl
open Classical in
noncomputable def dec (p : Prop) : Bool := decide p
theorem dec_true {p : Prop} (h : p) : dec p = true := by simp [dec, h]
theorem dec_false {p : Prop} (h : ¬ p) : dec p = false := by simp [dec, h]
theorem dec_iff {p : Prop} : dec p = true ↔ p := by simp [dec]
open Classical in
noncomputable def curI (l : List Int) (s : Int) (i : Nat) (o : Int) (k : Nat) : Int := if ∃ j, j < k ∧ band (at0 l j) (s - 2 ^ i) = s - 2 ^ i then bor o (2 ^ i) else o
theorem curI_hit {l : List Int} {s : Int} {i : Nat} {o : Int} {k : Nat} (h : band (at0 l k) (s - 2 ^ i) = s - 2 ^ i) (ho : isS o) (hi : i < 6) : bor (curI l s i o k) (2 ^ i) = curI l s i o (k + 1) := by
  have e : curI l s i o (k + 1) = bor o (2 ^ i) := by
    unfold curI
    rw [if_pos ⟨k, by omega, h⟩]
  rw [e]
  unfold curI
  split
  · exact bor_again ho hi
  · rfl
theorem curI_miss {l : List Int} {s : Int} {i : Nat} {o : Int} {k : Nat} (h : ¬ band (at0 l k) (s - 2 ^ i) = s - 2 ^ i) : curI l s i o (k + 1) = curI l s i o k := by
  have e : (∃ j, j < k + 1 ∧ band (at0 l j) (s - 2 ^ i) = s - 2 ^ i) ↔ ∃ j, j < k ∧ band (at0 l j) (s - 2 ^ i) = s - 2 ^ i := by
    constructor
    · rintro ⟨j, h1, h2⟩
      rcases Nat.lt_succ_iff_lt_or_eq.1 h1 with h3 | rfl
      · exact ⟨j, h3, h2⟩
      · exact absurd h2 h
    · rintro ⟨j, h1, h2⟩
      exact ⟨j, by omega, h2⟩
  unfold curI
  simp only [e]
theorem curI_new {l : List Int} {s : Int} {i : Nat} (ht : tb s i) : curI l s i (newI l s i) l.length = newI l s (i + 1) := by
  have e : (∃ j, j < l.length ∧ band (at0 l j) (s - 2 ^ i) = s - 2 ^ i) ↔ ridge l s i := by
    constructor
    · rintro ⟨j, h1, h2⟩
      exact ⟨ht, _, getD_mem' h1, h2⟩
    · rintro ⟨_, g, h1, h2⟩
      obtain ⟨j, h3, rfl⟩ := getD_mem_iff.1 h1
      exact ⟨j, h3, h2⟩
  unfold curI
  simp only [newI]
  by_cases hr : ridge l s i
  · rw [if_pos hr, if_pos (e.2 hr)]
  · rw [if_neg hr, if_neg fun h => hr (e.1 h)]
open Classical in
noncomputable def F_s_l19New : List V → Option V := F2 dL dI fun l s => if allS l ∧ isS s then some (.int .i64 (newI l s 6)) else none
theorem fn_s_l19New : FnOk Try.prog 154 F_s_l19New := by
  refine fn_ok code_s_l19New mixed envNil_ok ?_
  intro args r h hb
  obtain ⟨_, _, l, s, rfl, h1, h2, h4⟩ := F2_inv h
  cases dL_inv h1
  cases dI_inv h2
  simp only [Option.ite_none_right_eq_some, Option.some.injEq] at h4
  obtain ⟨⟨hl, hs⟩, rfl⟩ := h4
  have hlen := bnd_ints (hb _ (List.mem_cons_self ..))
  refine ⟨by simp, fun w0 U0 L0 N0 => ?_⟩
  have inner : ∀ (i : Nat) (o : Int) (Q : Post) (L : Tm), i < 6 → isS o → tb s i → subE L [(8, .int .i64 0), (0, .list 1 (ints l)), (1, .int .i64 s), (5, .int .i64 o), (6, .int .i64 (i : Int)), (7, .int .i64 (2 ^ i))] →
      Q (.exit 2) [(0, .list 1 (ints l)), (1, .int .i64 s), (5, .int .i64 (curI l s i o l.length)), (6, .int .i64 (i : Int))] ([], 0) → LoopI ⟨Try.prog, w0, U0, L0, N0, 0, 42⟩ [] sc_s_l19New_L2 Q L ([], 0) := by
    intro i o Q L hi ho ht hsub q1
    have hw : IntKind.i64.wrap (s - 2 ^ i) = s - 2 ^ i := by
      have := sub_pow hs hi ht
      exact wrapI _ (by have := this.1; omega) (by have := this.2; omega)
    refine loopQ envNil_ok mixed (fun k : Nat => [(8, .int .i64 (k : Int)), (0, .list 1 (ints l)), (1, .int .i64 s), (5, .int .i64 (curI l s i o k)), (6, .int .i64 (i : Int)), (7, .int .i64 (2 ^ i))]) (fun _ => ([], 0)) (fun k => k ≤ l.length) (fun k => l.length - k) 0 (by simp)
      (SubI.slots rfl (by simpa [curI] using hsub)) ?_
    intro k hk
    by_cases hlt : k < l.length
    · by_cases hit : band (at0 l k) (s - 2 ^ i) = s - 2 ^ i
      · simp -implicitDefEqProofs [sc_s_l19New_L2, hlt, hw, hit]
        refine ⟨by omega, Again.of (k + 1) (by omega) (by omega) (SubI.slots rfl ?_)⟩
        have := curI_hit hit ho hi
        simp (disch := omega) [wrapI, ← this]
      · simp -implicitDefEqProofs [sc_s_l19New_L2, hlt, hw, hit]
        refine ⟨by omega, Again.of (k + 1) (by omega) (by omega) (SubI.slots rfl ?_)⟩
        simp (disch := omega) [wrapI, curI_miss hit]
    · have : k = l.length := by omega
      subst this
      simp -implicitDefEqProofs [sc_s_l19New_L2]
      exact SubQ.of (SubI.slots rfl (by simp)) q1
  simp -implicitDefEqProofs [sc_s_l19New]
  refine loopI envNil_ok mixed (fun i : Nat => [(0, .list 1 (ints l)), (1, .int .i64 s), (5, .int .i64 (newI l s i)), (6, .int .i64 (i : Int))]) (fun _ => ([], 0)) (fun i => i ≤ 6) (fun i => 6 - i) 0 (by simp) (SubI.slots rfl (by simp [newI])) ?_
  intro i hi
  by_cases h6 : i < 6
  · have hu : IntKind.u64.wrap (i : Int) = i := wrapU _ (by omega) (by omega)
    have hsh : IntKind.i64.wrap (2 ^ min i IntKind.i64.bits) = 2 ^ i := by
      have : ∀ i : Nat, i < 6 → IntKind.i64.wrap (2 ^ min i IntKind.i64.bits) = 2 ^ i := by decide +kernel
      exact this i h6
    have h6' : (i : Int) < 6 := by omega
    by_cases ht : band s (2 ^ i) = 0
    · simp -implicitDefEqProofs [sc_s_l19New_L0, h6', hu, hsh, ht]
      have e : newI l s (i + 1) = newI l s i := by
        simp only [newI]
        rw [if_neg]
        exact fun hr => hr.1 ht
      exact Again.of (i + 1) (by omega) (by omega) (SubI.slots rfl (by simp (disch := omega) [wrapI, e]))
    · simp -implicitDefEqProofs [sc_s_l19New_L0, h6', hu, hsh, ht]
      refine inner i _ _ _ h6 (newI_isS l s i (by omega)) ht (by simp) ?_
      simp -implicitDefEqProofs
      refine Again.of (i + 1) (by omega) (by omega) (SubI.slots rfl ?_)
      simp (disch := omega) [wrapI, curI_new ht]
  · have : i = 6 := by omega
    subst this
    simp -implicitDefEqProofs [sc_s_l19New_L0]
def sc_s_l19Fits_L0 : SC := (.seq (.seq (.reg [⟨(some 13), none, (.mov (.t 6))⟩, ⟨(some 14), none, (.mov (.t 0))⟩, ⟨(some 15), none, (.len (.t 14))⟩, ⟨(some 16), none, (.bin false .lss (.t 13) (.t 15))⟩]) (.cond (.t 16) .skip (.exit 0))) (.seq (.block 1 (.seq (.reg [⟨(some 19), none, (.mov (.t 0))⟩, ⟨(some 20), none, (.mov (.t 6))⟩, ⟨(some 21), none, (.idx 1 (.t 19) (.t 20))⟩, ⟨(some 22), none, (.ld none (.int .i64 0) (.t 21))⟩, ⟨(some 23), none, (.mov (.t 1))⟩, ⟨(some 24), none, (.bin false .and (.t 22) (.t 23))⟩, ⟨(some 25), none, (.mov (.t 5))⟩, ⟨(some 26), none, (.bin false .and (.t 24) (.t 25))⟩, ⟨(some 27), none, (.mov (.t 5))⟩, ⟨(some 28), none, (.bin false .eql (.t 26) (.t 27))⟩]) (.cond (.t 28) (.seq (.reg [⟨(some 4), none, (.mov (.c (.bool false)))⟩]) .ret) .skip))) (.reg [⟨(some 17), none, (.mov (.t 6))⟩, ⟨(some 18), none, (.bin false .add (.t 17) (.c (.int .i64 1)))⟩, ⟨(some 6), none, (.mov (.t 18))⟩])))
def sc_s_l19Fits : SC := (.seq (.reg [⟨(some 4), none, (.mov (.c (.bool false)))⟩]) (.seq (.seq (.reg [⟨(some 7), none, (.mov (.t 0))⟩, ⟨(some 8), none, (.len (.t 7))⟩, ⟨(some 9), none, (.bin false .eql (.t 8) (.c (.int .i64 0)))⟩]) (.cond (.t 9) (.seq (.reg [⟨(some 4), none, (.mov (.c (.bool true)))⟩]) .ret) .skip)) (.seq (.reg [⟨(some 10), none, (.mov (.t 0))⟩, ⟨(some 11), none, (.mov (.t 1))⟩, ⟨(some 12), none, (.call 154 [(.t 10), (.t 11)])⟩, ⟨(some 5), none, (.mov (.t 12))⟩]) (.seq (.seq (.reg [⟨(some 6), none, (.mov (.c (.int .i64 0)))⟩]) (.block 0 (.loop sc_s_l19Fits_L0))) (.seq (.reg [⟨(some 4), none, (.mov (.c (.bool true)))⟩]) .ret)))))
theorem code_s_l19Fits : fnCode Try.prog [] 153 = some (29, sc_s_l19Fits, [(4, none)]) := by kernel_rfl
open Classical in
noncomputable def F_s_l19Fits : List V → Option V := F2 dL dI fun l s => if allS l ∧ isS s then some (.bool (dec (fitsS l s))) else none
theorem fn_s_l19Fits : FnOk Try.prog 153 F_s_l19Fits := by
  have env := (envNil_ok (P := Try.prog)).add fn_s_l19New
  refine fn_ok code_s_l19Fits mixed env ?_
  intro args r h hb
  obtain ⟨_, _, l, s, rfl, h1, h2, h4⟩ := F2_inv h
  cases dL_inv h1
  cases dI_inv h2
  simp only [Option.ite_none_right_eq_some, Option.some.injEq] at h4
  obtain ⟨⟨hl, hs⟩, rfl⟩ := h4
  have hlen := bnd_ints (hb _ (List.mem_cons_self ..))
  refine ⟨by simp, fun w0 U0 L0 N0 => ?_⟩
  generalize hv : dec (fitsS l s) = v
  by_cases h0 : l.length = 0
  · have : l = [] := List.eq_nil_of_length_eq_zero h0
    have hv1 : v = true := by rw [← hv]; exact dec_true (.inl this)
    simp -implicitDefEqProofs [sc_s_l19Fits, h0, hv1]
  · simp -implicitDefEqProofs [sc_s_l19Fits, F_s_l19New, hl, hs, h0]
    refine loopI env mixed (fun k : Nat => [(0, .list 1 (ints l)), (1, .int .i64 s), (5, .int .i64 (newI l s 6)), (6, .int .i64 (k : Int))]) (fun _ => ([], 0)) (fun k => k ≤ l.length ∧ ∀ j, j < k → band (band (at0 l j) s) (newI l s 6) ≠ newI l s 6) (fun k => l.length - k) 0 (by simp) (SubI.slots rfl (by simp)) ?_
    rintro k ⟨hk, hn⟩
    by_cases hlt : k < l.length
    · by_cases he : band (band (at0 l k) s) (newI l s 6) = newI l s 6
      · have hv1 : v = false := by
          rw [← hv]
          refine dec_false ?_
          rintro (rfl | hf)
          · simp at h0
          · exact hf _ (getD_mem' hlt) he
        simp -implicitDefEqProofs [sc_s_l19Fits_L0, hlt, he, hv1]
        omega
      · simp -implicitDefEqProofs [sc_s_l19Fits_L0, hlt, he]
        refine ⟨by omega, Again.of (k + 1) ⟨by omega, fun j hj => ?_⟩ (by omega) (SubI.slots rfl (by simp (disch := omega) [wrapI]))⟩
        rcases Nat.lt_succ_iff_lt_or_eq.1 hj with h1 | rfl
        · exact hn j h1
        · exact he
    · have hv1 : v = true := by
        rw [← hv]
        refine dec_true (.inr fun g hg => ?_)
        obtain ⟨j, hj, rfl⟩ := getD_mem_iff.1 hg
        exact hn j (by omega)
      simp -implicitDefEqProofs [sc_s_l19Fits_L0, hlt, hv1]
def sc_i_newPart_L0 : SC := (.seq (.reg [⟨(some 12), none, (.bin false .lss (.t 11) (.t 10))⟩]) (.seq (.cond (.t 12) .skip (.exit 0)) (.seq (.block 1 (.seq (.reg [⟨(some 13), none, (.idx 1 (.t 9) (.t 11))⟩, ⟨(some 14), none, (.ld none (.int .i64 0) (.t 13))⟩, ⟨(some 7), none, (.mov (.t 14))⟩]) (.seq (.reg [⟨(some 15), none, (.mov (.t 1))⟩, ⟨(some 16), none, (.mov (.t 7))⟩, ⟨(some 17), none, (.bin false .andNot (.t 15) (.t 16))⟩, ⟨(some 8), none, (.mov (.t 17))⟩]) (.seq (.reg [⟨(some 18), none, (.mov (.t 8))⟩, ⟨(some 19), none, (.call 181 [(.t 18)])⟩, ⟨(some 20), none, (.bin false .eql (.t 19) (.c (.int .i64 1)))⟩]) (.cond (.t 20) (.reg [⟨(some 21), none, (.mov (.t 5))⟩, ⟨(some 22), none, (.mov (.t 8))⟩, ⟨(some 23), none, (.bin false .or (.t 21) (.t 22))⟩, ⟨(some 5), none, (.mov (.t 23))⟩]) .skip))))) (.reg [⟨(some 24), none, (.bin false .add (.t 11) (.c (.int .i64 1)))⟩, ⟨(some 11), none, (.mov (.t 24))⟩]))))
def sc_i_newPart : SC := (.seq (.reg [⟨(some 4), none, (.mov (.c (.int .i64 0)))⟩]) (.seq (.reg [⟨(some 5), none, (.mov (.c (.int .i64 0)))⟩]) (.seq (.seq (.reg [⟨(some 9), none, (.mov (.t 0))⟩, ⟨(some 10), none, (.len (.t 9))⟩, ⟨(some 11), none, (.mov (.c (.int .i64 0)))⟩]) (.block 0 (.loop sc_i_newPart_L0))) (.seq (.reg [⟨(some 25), none, (.mov (.t 5))⟩, ⟨(some 4), none, (.mov (.t 25))⟩]) .ret))))
theorem code_i_newPart : fnCode Try.prog [] 148 = some (26, sc_i_newPart, [(4, none)]) := by kernel_rfl
open Classical in
noncomputable def F_i_newPart : List V → Option V := F2 dL dI fun l s => if allS l ∧ isS s then some (.int .i64 (partI l s)) else none
theorem fn_i_newPart : FnOk Try.prog 148 F_i_newPart := by
  have env := (envNil_ok (P := Try.prog)).add fn_i_SizeOf
  refine fn_ok code_i_newPart mixed env ?_
  intro args r h hb
  obtain ⟨_, _, l, s, rfl, h1, h2, h4⟩ := F2_inv h
  cases dL_inv h1
  cases dI_inv h2
  simp only [Option.ite_none_right_eq_some, Option.some.injEq] at h4
  obtain ⟨⟨hl, hs⟩, rfl⟩ := h4
  have hlen := bnd_ints (hb _ (List.mem_cons_self ..))
  refine ⟨by simp, fun w0 U0 L0 N0 => ?_⟩
  simp -implicitDefEqProofs [sc_i_newPart]
  refine loopI env mixed (fun k : Nat => [(1, .int .i64 s), (5, .int .i64 (partI (l.take k) s)), (9, .list 1 (ints l)), (10, .int .i64 l.length), (11, .int .i64 (k : Int))]) (fun _ => ([], 0)) (fun k => k ≤ l.length) (fun k => l.length - k) 0 (by simp) (SubI.slots rfl (by simp [partI])) ?_
  intro k hk
  by_cases hlt : k < l.length
  · by_cases he : sizeOf1 (bnot s (at0 l k)) = 1
    · simp -implicitDefEqProofs [sc_i_newPart_L0, F_i_SizeOf, hlt, he]
      refine ⟨by omega, Again.of (k + 1) (by omega) (by omega) (SubI.slots rfl ?_)⟩
      simp (disch := omega) [wrapI, partI_step hlt, he]
    · simp -implicitDefEqProofs [sc_i_newPart_L0, F_i_SizeOf, hlt, he]
      refine ⟨by omega, Again.of (k + 1) (by omega) (by omega) (SubI.slots rfl ?_)⟩
      simp (disch := omega) [wrapI, partI_step hlt, he]
  · have : k = l.length := by omega
    subst this
    simp -implicitDefEqProofs [sc_i_newPart_L0]
def sc_i_shellFits_L0 : SC := (.seq (.reg [⟨(some 14), none, (.bin false .lss (.t 13) (.t 12))⟩]) (.seq (.cond (.t 14) .skip (.exit 0)) (.seq (.block 1 (.seq (.reg [⟨(some 15), none, (.idx 1 (.t 11) (.t 13))⟩, ⟨(some 16), none, (.ld none (.int .i64 0) (.t 15))⟩, ⟨(some 7), none, (.mov (.t 16))⟩]) (.seq (.reg [⟨(some 17), none, (.mov (.t 5))⟩, ⟨(some 18), none, (.mov (.t 7))⟩, ⟨(some 19), none, (.bin false .andNot (.t 17) (.t 18))⟩, ⟨(some 20), none, (.bin false .eql (.t 19) (.c (.int .i64 0)))⟩]) (.cond (.t 20) (.seq (.reg [⟨(some 4), none, (.mov (.c (.bool false)))⟩]) .ret) .skip)))) (.reg [⟨(some 21), none, (.bin false .add (.t 13) (.c (.int .i64 1)))⟩, ⟨(some 13), none, (.mov (.t 21))⟩]))))
def sc_i_shellFits : SC := (.seq (.reg [⟨(some 4), none, (.mov (.c (.bool false)))⟩]) (.seq (.reg [⟨(some 8), none, (.mov (.t 0))⟩, ⟨(some 9), none, (.mov (.t 1))⟩, ⟨(some 10), none, (.call 148 [(.t 8), (.t 9)])⟩, ⟨(some 5), none, (.mov (.t 10))⟩]) (.seq (.seq (.reg [⟨(some 11), none, (.mov (.t 0))⟩, ⟨(some 12), none, (.len (.t 11))⟩, ⟨(some 13), none, (.mov (.c (.int .i64 0)))⟩]) (.block 0 (.loop sc_i_shellFits_L0))) (.seq (.reg [⟨(some 4), none, (.mov (.c (.bool true)))⟩]) .ret))))
theorem code_i_shellFits : fnCode Try.prog [] 146 = some (22, sc_i_shellFits, [(4, none)]) := by kernel_rfl
open Classical in
noncomputable def F_i_shellFits : List V → Option V := F2 dL dI fun l s => if allS l ∧ isS s then some (.bool (dec (fitsI l s))) else none
theorem fn_i_shellFits : FnOk Try.prog 146 F_i_shellFits := by
  have env := (envNil_ok (P := Try.prog)).add fn_i_newPart
  refine fn_ok code_i_shellFits mixed env ?_
  intro args r h hb
  obtain ⟨_, _, l, s, rfl, h1, h2, h4⟩ := F2_inv h
  cases dL_inv h1
  cases dI_inv h2
  simp only [Option.ite_none_right_eq_some, Option.some.injEq] at h4
  obtain ⟨⟨hl, hs⟩, rfl⟩ := h4
  have hlen := bnd_ints (hb _ (List.mem_cons_self ..))
  refine ⟨by simp, fun w0 U0 L0 N0 => ?_⟩
  generalize hv : dec (fitsI l s) = v
  simp -implicitDefEqProofs [sc_i_shellFits, F_i_newPart, hl, hs]
  refine loopI env mixed (fun k : Nat => [(5, .int .i64 (partI l s)), (11, .list 1 (ints l)), (12, .int .i64 l.length), (13, .int .i64 (k : Int))]) (fun _ => ([], 0)) (fun k => k ≤ l.length ∧ ∀ j, j < k → bnot (partI l s) (at0 l j) ≠ 0) (fun k => l.length - k) 0 (by simp) (SubI.slots rfl (by simp)) ?_
  rintro k ⟨hk, hn⟩
  by_cases hlt : k < l.length
  · by_cases he : bnot (partI l s) (at0 l k) = 0
    · have hv1 : v = false := by
        rw [← hv]
        exact dec_false fun hf => hf _ (getD_mem' hlt) he
      simp -implicitDefEqProofs [sc_i_shellFits_L0, hlt, he, hv1]
      omega
    · simp -implicitDefEqProofs [sc_i_shellFits_L0, hlt, he]
      refine ⟨by omega, Again.of (k + 1) ⟨by omega, fun j hj => ?_⟩ (by omega) (SubI.slots rfl (by simp (disch := omega) [wrapI]))⟩
      rcases Nat.lt_succ_iff_lt_or_eq.1 hj with h1 | rfl
      · exact hn j h1
      · exact he
  · have hv1 : v = true := by
      rw [← hv]
      refine dec_true fun g hg => ?_
      obtain ⟨j, hj, rfl⟩ := getD_mem_iff.1 hg
      exact hn j (by omega)
    simp -implicitDefEqProofs [sc_i_shellFits_L0, hlt, hv1]
end Go.Proofs.Ytmemomfffehnkaa
namespace Go.Proofs.Ytmemomfffehnkaa
open Go Go.RowKit
set_option maxRecDepth 1000000
set_option linter.unusedSimpArgs false
set_option linter.unusedVariables false
set_option maxHeartbeats 1000000
theorem before_trans {a b c : Int} (h1 : before a b = true) (h2 : before b c = true) : before a c = true := by
  simp only [before, decide_eq_true_eq] at *
  omega
theorem before_chain {l : List Int} (h : ∀ k, k < l.length → 0 < k → before (at0 l (k - 1)) (at0 l k) = true) : ∀ (d i : Nat), i + d + 1 < l.length → before (at0 l i) (at0 l (i + d + 1)) = true := by
  intro d
  induction d with
  | zero => intro i hi; exact h (i + 1) hi (by omega)
  | succ d ih =>
    intro i hi
    exact before_trans (ih i (by omega)) (h (i + (d + 1) + 1) hi (by omega))
theorem cplx_before {n : Int} {l : List Int} (h : cplx n l) {i j : Nat} (hij : i < j) (hj : j < l.length) : before (at0 l i) (at0 l j) = true := by
  have := before_chain (fun k hk h0 => (h.2.2 k hk).2.1 h0) (j - i - 1) i (by omega)
  rwa [show i + (j - i - 1) + 1 = j by omega] at this
theorem before_apart {a b : Int} (ha : isS a) (hb : isS b) (h : before b a = true) : bnot a b ≠ 0 := by
  obtain ⟨x, hx, rfl⟩ := isS_nat0 ha
  obtain ⟨y, hy, rfl⟩ := isS_nat0 hb
  have key : ∀ x : Nat, x < 64 → ∀ y : Nat, y < 64 → (x - (x &&& y) != 0 || !(decide (pcF 6 y < pcF 6 x) || (pcF 6 y == pcF 6 x && decide (y < x)))) = true := by decide +kernel
  have k := key x hx y hy
  rw [bnot_nat0 x y hx hy]
  simp only [before, decide_eq_true_eq, sz, Int.toNat_natCast, pc6 x hx, pc6 y hy] at h
  simp only [Bool.or_eq_true, bne_iff_ne, Bool.not_eq_true', Bool.or_eq_false_iff, decide_eq_false_iff_not, Bool.and_eq_false_iff, beq_eq_false_iff_ne] at k
  omega
theorem cplx_isS {n : Int} {l : List Int} (h : cplx n l) : allS l := by
  intro x hx
  obtain ⟨j, hj, rfl⟩ := getD_mem_iff.1 hx
  exact isSet_pos (h.2.2 j hj).1
theorem cplx_apart {n : Int} {l : List Int} (h : cplx n l) {a b : Int} (ha : a ∈ l) (hb : b ∈ l) (hab : a ≠ b) : bnot a b ≠ 0 := by
  have h1 := cplx_isS h a ha
  have h2 := cplx_isS h b hb
  obtain ⟨i, hi, rfl⟩ := getD_mem_iff.1 ha
  obtain ⟨j, hj, rfl⟩ := getD_mem_iff.1 hb
  have hne : i ≠ j := fun e => hab (by rw [e])
  rcases Nat.lt_or_gt_of_ne hne with h3 | h3
  · rw [Ne, bnot_zero2 h1 h2]
    exact (h.2.2 j hj).2.2 i h3
  · exact before_apart h1 h2 (cplx_before h h3 hi)
theorem order_parts {n : Int} {l list : List Int} (h : orderB n l list = true) : cplx n l ∧ list.Nodup ∧ (∀ x ∈ list, x ∈ l) ∧ allS list := by
  simp only [orderB, Bool.and_eq_true, decide_eq_true_eq, cplxB_iff] at h
  exact ⟨h.1, h.2.2.1, h.2.2.2, fun x hx => cplx_isS h.1 x (h.2.2.2 x hx)⟩
theorem order_apart {n : Int} {l list : List Int} (h : orderB n l list = true) {k : Nat} (hk : k < list.length) : ∀ g ∈ list.take k, bnot (at0 list k) g ≠ 0 := by
  obtain ⟨h1, h2, h3, _⟩ := order_parts h
  intro g hg
  exact cplx_apart h1 (h3 _ (getD_mem' hk)) (h3 _ (List.mem_of_mem_take hg)) fun e => nodup_at' h2 hk (e ▸ hg)
noncomputable def shellB (n : Int) (l list : List Int) : Bool := dec (orderB n l list = true ∧ ∀ k, k < list.length → fitsI (list.take k) (at0 list k))
def sc_s_IsShelling_L0 : SC := (.seq (.seq (.reg [⟨(some 10), none, (.mov (.t 5))⟩, ⟨(some 11), none, (.mov (.t 1))⟩, ⟨(some 12), none, (.len (.t 11))⟩, ⟨(some 13), none, (.bin false .lss (.t 10) (.t 12))⟩]) (.cond (.t 13) .skip (.exit 0))) (.seq (.block 1 (.seq (.dreg [⟨⟨(some 16), none, (.mov (.t 1))⟩, false, false⟩, ⟨⟨(some 17), none, (.mov (.t 5))⟩, false, false⟩, ⟨⟨(some 18), none, (.sli 1 (.t 16) none (some (.t 17)) none)⟩, false, false⟩, ⟨⟨(some 19), none, (.mov (.t 1))⟩, false, false⟩, ⟨⟨(some 20), none, (.mov (.t 5))⟩, false, false⟩, ⟨⟨(some 21), none, (.idx 1 (.t 19) (.t 20))⟩, false, false⟩, ⟨⟨(some 22), none, (.ld none (.int .i64 0) (.t 21))⟩, false, false⟩, ⟨⟨(some 23), none, (.call 153 [(.t 18), (.t 22)])⟩, false, false⟩, ⟨⟨(some 24), none, (.un .not (.t 23))⟩, false, false⟩]) (.cond (.t 24) (.seq (.reg [⟨(some 4), none, (.mov (.c (.bool false)))⟩]) .ret) .skip))) (.reg [⟨(some 14), none, (.mov (.t 5))⟩, ⟨(some 15), none, (.bin false .add (.t 14) (.c (.int .i64 1)))⟩, ⟨(some 5), none, (.mov (.t 15))⟩])))
def sc_s_IsShelling : SC := (.seq (.reg [⟨(some 2), none, (.box (.t 0))⟩, ⟨(some 4), none, (.mov (.c (.bool false)))⟩]) (.seq (.seq (.reg [⟨(some 6), none, (.ld (some 2) .undef (.t 2))⟩, ⟨(some 7), none, (.mov (.t 1))⟩, ⟨(some 8), none, (.call 35 [(.t 6), (.t 7)])⟩, ⟨(some 9), none, (.un .not (.t 8))⟩]) (.cond (.t 9) (.seq (.reg [⟨(some 4), none, (.mov (.c (.bool false)))⟩]) .ret) .skip)) (.seq (.seq (.reg [⟨(some 5), none, (.mov (.c (.int .i64 0)))⟩]) (.block 0 (.loop sc_s_IsShelling_L0))) (.seq (.reg [⟨(some 4), none, (.mov (.c (.bool true)))⟩]) .ret))))
theorem code_s_IsShelling : fnCode Try.prog [] 37 = some (25, sc_s_IsShelling, [(4, none)]) := by kernel_rfl
noncomputable def F_s_IsShelling : List V → Option V := F2 dC dL fun c list => some (.bool (shellB c.1 c.2 list))
theorem fn_s_IsShelling : FnOk Try.prog 37 F_s_IsShelling := by
  have env := ((envNil_ok (P := Try.prog)).add fn_s_l19Fits).add fn_s_IsOrder
  refine fn_ok code_s_IsShelling mixed env ?_
  intro args r h hb
  obtain ⟨_, _, ⟨n, l⟩, list, rfl, h1, h2, h4⟩ := F2_inv h
  cases dC_inv h1
  cases dL_inv h2
  cases h4
  have hlen := bnd_ints (hb _ (List.mem_cons_of_mem _ (List.mem_cons_self ..)))
  refine ⟨by simp, fun w0 U0 L0 N0 => ?_⟩
  generalize hv : shellB n l list = v
  cases ho : orderB n l list with
  | false =>
    have hv1 : v = false := by rw [← hv]; exact dec_false fun h => by simp [ho] at h
    simp -implicitDefEqProofs [sc_s_IsShelling, F_s_IsOrder, ho, hv1]
  | true =>
    simp -implicitDefEqProofs [sc_s_IsShelling, F_s_IsOrder, ho]
    refine loopI env mixed (fun k : Nat => [(1, .list 1 (ints list)), (5, .int .i64 (k : Int))]) (fun _ => ([(0, [.int .i64 n, .list 1 (ints l)])], 1)) (fun k => k ≤ list.length ∧ ∀ j, j < k → fitsI (list.take j) (at0 list j)) (fun k => list.length - k) 0 (by simp) (SubI.slots rfl (by simp)) ?_
    rintro k ⟨hk, hn⟩
    by_cases hlt : k < list.length
    · have hS := (order_parts ho).2.2.2
      have hT := allS_take hS k
      have hK := allS_at hS hlt
      have hfit := fits_same hT hK (order_apart ho hlt)
      by_cases hf : fitsI (list.take k) (at0 list k)
      · have hd : dec (fitsS (list.take k) (at0 list k)) = true := dec_true (hfit.2 hf)
        simp -implicitDefEqProofs [sc_s_IsShelling_L0, F_s_l19Fits, hlt, hT, hK, hd]
        repeat' (first | omega | apply And.intro | intro _)
        refine Again.of (k + 1) ⟨by omega, fun j hj => ?_⟩ (by omega) (SubI.slots rfl (by simp (disch := omega) [wrapI]))
        rcases Nat.lt_succ_iff_lt_or_eq.1 hj with h1 | rfl
        · exact hn j h1
        · exact hf
      · have hd : dec (fitsS (list.take k) (at0 list k)) = false := dec_false fun h => hf (hfit.1 h)
        have hv1 : v = false := by rw [← hv]; exact dec_false fun h => hf (h.2 k hlt)
        simp -implicitDefEqProofs [sc_s_IsShelling_L0, F_s_l19Fits, hlt, hT, hK, hd, hv1]
        omega
    · have hv1 : v = true := by rw [← hv]; exact dec_true ⟨ho, fun j hj => hn j (by omega)⟩
      simp -implicitDefEqProofs [sc_s_IsShelling_L0, hlt, hv1]
def sc_i_IsShelling_L0 : SC := (.seq (.reg [⟨(some 14), none, (.bin false .lss (.t 13) (.t 12))⟩]) (.seq (.cond (.t 14) .skip (.exit 0)) (.seq (.block 1 (.seq (.reg [⟨(some 15), none, (.mov (.t 13))⟩, ⟨(some 16), none, (.idx 1 (.t 11) (.t 13))⟩, ⟨(some 17), none, (.ld none (.int .i64 0) (.t 16))⟩, ⟨(some 5), none, (.mov (.t 15))⟩, ⟨(some 6), none, (.mov (.t 17))⟩]) (.seq (.reg [⟨(some 18), none, (.mov (.t 1))⟩, ⟨(some 19), none, (.mov (.t 5))⟩, ⟨(some 20), none, (.sli 1 (.t 18) none (some (.t 19)) none)⟩, ⟨(some 21), none, (.mov (.t 6))⟩, ⟨(some 22), none, (.call 146 [(.t 20), (.t 21)])⟩, ⟨(some 23), none, (.un .not (.t 22))⟩]) (.cond (.t 23) (.seq (.reg [⟨(some 4), none, (.mov (.c (.bool false)))⟩]) .ret) .skip)))) (.reg [⟨(some 24), none, (.bin false .add (.t 13) (.c (.int .i64 1)))⟩, ⟨(some 13), none, (.mov (.t 24))⟩]))))
def sc_i_IsShelling : SC := (.seq (.reg [⟨(some 2), none, (.box (.t 0))⟩, ⟨(some 4), none, (.mov (.c (.bool false)))⟩]) (.seq (.seq (.reg [⟨(some 7), none, (.ld (some 2) .undef (.t 2))⟩, ⟨(some 8), none, (.mov (.t 1))⟩, ⟨(some 9), none, (.call 34 [(.t 7), (.t 8)])⟩, ⟨(some 10), none, (.un .not (.t 9))⟩]) (.cond (.t 10) (.seq (.reg [⟨(some 4), none, (.mov (.c (.bool false)))⟩]) .ret) .skip)) (.seq (.seq (.reg [⟨(some 11), none, (.mov (.t 1))⟩, ⟨(some 12), none, (.len (.t 11))⟩, ⟨(some 13), none, (.mov (.c (.int .i64 0)))⟩]) (.block 0 (.loop sc_i_IsShelling_L0))) (.seq (.reg [⟨(some 4), none, (.mov (.c (.bool true)))⟩]) .ret))))
theorem code_i_IsShelling : fnCode Try.prog [] 36 = some (25, sc_i_IsShelling, [(4, none)]) := by kernel_rfl
theorem fn_i_IsShelling : FnOk Try.prog 36 F_s_IsShelling := by
  have env := ((envNil_ok (P := Try.prog)).add fn_i_shellFits).add fn_i_IsOrder
  refine fn_ok code_i_IsShelling mixed env ?_
  intro args r h hb
  obtain ⟨_, _, ⟨n, l⟩, list, rfl, h1, h2, h4⟩ := F2_inv h
  cases dC_inv h1
  cases dL_inv h2
  cases h4
  have hlen := bnd_ints (hb _ (List.mem_cons_of_mem _ (List.mem_cons_self ..)))
  refine ⟨by simp, fun w0 U0 L0 N0 => ?_⟩
  generalize hv : shellB n l list = v
  cases ho : orderB n l list with
  | false =>
    have hv1 : v = false := by rw [← hv]; exact dec_false fun h => by simp [ho] at h
    simp -implicitDefEqProofs [sc_i_IsShelling, F_s_IsOrder, ho, hv1]
  | true =>
    simp -implicitDefEqProofs [sc_i_IsShelling, F_s_IsOrder, ho]
    refine loopI env mixed (fun k : Nat => [(1, .list 1 (ints list)), (11, .list 1 (ints list)), (12, .int .i64 list.length), (13, .int .i64 (k : Int))]) (fun _ => ([(0, [.int .i64 n, .list 1 (ints l)])], 1)) (fun k => k ≤ list.length ∧ ∀ j, j < k → fitsI (list.take j) (at0 list j)) (fun k => list.length - k) 0 (by simp) (SubI.slots rfl (by simp)) ?_
    rintro k ⟨hk, hn⟩
    by_cases hlt : k < list.length
    · have hS := (order_parts ho).2.2.2
      have hT := allS_take hS k
      have hK := allS_at hS hlt
      by_cases hf : fitsI (list.take k) (at0 list k)
      · have hd : dec (fitsI (list.take k) (at0 list k)) = true := dec_true hf
        simp -implicitDefEqProofs [sc_i_IsShelling_L0, F_i_shellFits, hlt, hT, hK, hd]
        repeat' (first | omega | apply And.intro | intro _)
        refine Again.of (k + 1) ⟨by omega, fun j hj => ?_⟩ (by omega) (SubI.slots rfl (by simp (disch := omega) [wrapI]))
        rcases Nat.lt_succ_iff_lt_or_eq.1 hj with h1 | rfl
        · exact hn j h1
        · exact hf
      · have hd : dec (fitsI (list.take k) (at0 list k)) = false := dec_false hf
        have hv1 : v = false := by rw [← hv]; exact dec_false fun h => hf (h.2 k hlt)
        simp -implicitDefEqProofs [sc_i_IsShelling_L0, F_i_shellFits, hlt, hT, hK, hd, hv1]
        omega
    · have hv1 : v = true := by rw [← hv]; exact dec_true ⟨ho, fun j hj => hn j (by omega)⟩
      simp -implicitDefEqProofs [sc_i_IsShelling_L0, hlt, hv1]
end Go.Proofs.Ytmemomfffehnkaa
namespace Go.Proofs.Ytmemomfffehnkaa
open Go Go.RowKit
set_option maxRecDepth 1000000
set_option linter.unusedSimpArgs false
set_option linter.unusedVariables false
set_option maxHeartbeats 1000000
def sc_s_IsPure_L0 : SC := (.seq (.seq (.reg [⟨(some 4), none, (.mov (.t 3))⟩, ⟨(some 5), none, (.fad 1 (.t 1))⟩, ⟨(some 6), none, (.ld none .nil (.t 5))⟩, ⟨(some 7), none, (.len (.t 6))⟩, ⟨(some 8), none, (.bin false .lss (.t 4) (.t 7))⟩]) (.cond (.t 8) .skip (.exit 0))) (.seq (.block 1 (.seq (.dreg [⟨⟨(some 11), none, (.fad 1 (.t 1))⟩, false, false⟩, ⟨⟨(some 12), none, (.ld none .nil (.t 11))⟩, false, false⟩, ⟨⟨(some 13), none, (.mov (.t 3))⟩, false, false⟩, ⟨⟨(some 14), none, (.idx 1 (.t 12) (.t 13))⟩, false, false⟩, ⟨⟨(some 15), none, (.ld none (.int .i64 0) (.t 14))⟩, false, false⟩, ⟨⟨(some 16), none, (.call 156 [(.t 15)])⟩, false, false⟩, ⟨⟨(some 17), none, (.fad 1 (.t 1))⟩, false, false⟩, ⟨⟨(some 18), none, (.ld none .nil (.t 17))⟩, false, false⟩, ⟨⟨(some 19), none, (.idx 1 (.t 18) (.c (.int .i64 0)))⟩, false, false⟩, ⟨⟨(some 20), none, (.ld none (.int .i64 0) (.t 19))⟩, false, false⟩, ⟨⟨(some 21), none, (.call 156 [(.t 20)])⟩, false, false⟩, ⟨⟨(some 22), none, (.bin false .neq (.t 16) (.t 21))⟩, false, false⟩]) (.cond (.t 22) (.seq (.reg [⟨(some 2), none, (.mov (.c (.bool false)))⟩]) .ret) .skip))) (.reg [⟨(some 9), none, (.mov (.t 3))⟩, ⟨(some 10), none, (.bin false .add (.t 9) (.c (.int .i64 1)))⟩, ⟨(some 3), none, (.mov (.t 10))⟩])))
def sc_s_IsPure : SC := (.seq (.reg [⟨(some 1), none, (.box (.t 0))⟩, ⟨(some 2), none, (.mov (.c (.bool false)))⟩]) (.seq (.seq (.reg [⟨(some 3), none, (.mov (.c (.int .i64 1)))⟩]) (.block 0 (.loop sc_s_IsPure_L0))) (.seq (.reg [⟨(some 23), none, (.ld (some 2) .undef (.t 1))⟩, ⟨(some 24), none, (.call 24 [(.t 23)])⟩, ⟨(some 2), none, (.mov (.t 24))⟩]) .ret)))
theorem code_s_IsPure : fnCode Try.prog [] 41 = some (25, sc_s_IsPure, [(2, none)]) := by kernel_rfl
def allR (l : List Int) : Prop := ∀ x ∈ l, inR x
theorem allR_at {l : List Int} (h : allR l) {j : Nat} (hj : j < l.length) : at0 l j < 9223372036854775808 := (h _ (getD_mem' hj)).2
noncomputable def pureB (n : Int) (l : List Int) : Bool := dec (cplx n l ∧ ∀ k, k < l.length → sz (at0 l k) = sz (at0 l 0))
theorem pureB_not {n : Int} {l : List Int} {k : Nat} (hk : k < l.length) (h : sz (at0 l k) ≠ sz (at0 l 0)) : pureB n l = false := dec_false fun hp => h (hp.2 k hk)
theorem pureB_of {n : Int} {l : List Int} (h : ∀ k, k < l.length → sz (at0 l k) = sz (at0 l 0)) : pureB n l = cplxB n l := by
  rw [Bool.eq_iff_iff, cplxB_iff]
  exact dec_iff.trans ⟨fun a => a.1, fun a => ⟨a, h⟩⟩
open Classical in
noncomputable def F_s_IsPure : List V → Option V := F1 dC fun c => if allR c.2 then some (.bool (pureB c.1 c.2)) else none
theorem fn_s_IsPure : FnOk Try.prog 41 F_s_IsPure := by
  have env := ((envNil_ok (P := Try.prog)).add fn_s_l2Size).add fn_s_IsComplex
  refine fn_ok code_s_IsPure mixed env ?_
  intro args r h hb
  obtain ⟨_, ⟨n, l⟩, rfl, h1, h4⟩ := F1_inv h
  cases dC_inv h1
  simp only [Option.ite_none_right_eq_some, Option.some.injEq] at h4
  obtain ⟨hR, rfl⟩ := h4
  have hlen := bnd_eC (hb _ (List.mem_cons_self ..))
  simp only at hlen
  refine ⟨by simp, fun w0 U0 L0 N0 => ?_⟩
  generalize hv : pureB n l = v
  simp -implicitDefEqProofs [sc_s_IsPure]
  refine loopI env mixed (fun k : Nat => [(1, .pt 0 0), (3, .int .i64 (k : Int))]) (fun _ => ([(0, [.int .i64 n, .list 1 (ints l)])], 1)) (fun k => (k ≤ l.length ∨ k = 1) ∧ ∀ j, j < k → j < l.length → sz (at0 l j) = sz (at0 l 0)) (fun k => l.length - k) 1
    ⟨.inr rfl, fun j hj _ => by rw [show j = 0 by omega]⟩ (SubI.slots rfl (by simp)) ?_
  rintro k ⟨hk, hn⟩
  by_cases hlt : k < l.length
  · have r1 := allR_at hR hlt
    have r0 := allR_at hR (show 0 < l.length by omega)
    by_cases he : sz (at0 l k) = sz (at0 l 0)
    · simp -implicitDefEqProofs [sc_s_IsPure_L0, F_s_l2Size, hlt, r0, r1, he]
      repeat' (first | omega | apply And.intro | intro _)
      refine Again.of (k + 1) ⟨by omega, fun j hj h2 => ?_⟩ (by omega) (SubI.slots rfl (by simp (disch := omega) [wrapI]))
      rcases Nat.lt_succ_iff_lt_or_eq.1 hj with h1 | rfl
      · exact hn j h1 h2
      · exact he
    · have hv1 : v = false := hv ▸ pureB_not hlt he
      simp -implicitDefEqProofs [sc_s_IsPure_L0, F_s_l2Size, hlt, r0, r1, he, hv1]
      omega
  · have hv1 : cplxB n l = v := by rw [← hv, pureB_of fun j hj => hn j (by omega) hj]
    simp -implicitDefEqProofs [sc_s_IsPure_L0, F_s_IsComplex, hlt, hv1]
def sc_i_IsPure_L0 : SC := (.seq (.reg [⟨(some 12), none, (.bin false .lss (.t 11) (.t 10))⟩]) (.seq (.cond (.t 12) .skip (.exit 0)) (.seq (.block 1 (.seq (.reg [⟨(some 13), none, (.idx 1 (.t 9) (.t 11))⟩, ⟨(some 14), none, (.ld none (.int .i64 0) (.t 13))⟩, ⟨(some 4), none, (.mov (.t 14))⟩]) (.seq (.dreg [⟨⟨(some 15), none, (.mov (.t 4))⟩, false, false⟩, ⟨⟨(some 16), none, (.call 181 [(.t 15)])⟩, false, false⟩, ⟨⟨(some 17), none, (.fad 1 (.t 1))⟩, false, false⟩, ⟨⟨(some 18), none, (.ld none .nil (.t 17))⟩, false, false⟩, ⟨⟨(some 19), none, (.idx 1 (.t 18) (.c (.int .i64 0)))⟩, false, false⟩, ⟨⟨(some 20), none, (.ld none (.int .i64 0) (.t 19))⟩, false, false⟩, ⟨⟨(some 21), none, (.call 181 [(.t 20)])⟩, false, false⟩, ⟨⟨(some 22), none, (.bin false .neq (.t 16) (.t 21))⟩, false, false⟩]) (.cond (.t 22) (.seq (.reg [⟨(some 2), none, (.mov (.c (.bool false)))⟩]) .ret) .skip)))) (.reg [⟨(some 23), none, (.bin false .add (.t 11) (.c (.int .i64 1)))⟩, ⟨(some 11), none, (.mov (.t 23))⟩]))))
def sc_i_IsPure : SC := (.seq (.reg [⟨(some 1), none, (.box (.t 0))⟩, ⟨(some 2), none, (.mov (.c (.bool false)))⟩]) (.seq (.seq (.reg [⟨(some 5), none, (.ld (some 2) .undef (.t 1))⟩, ⟨(some 6), none, (.call 130 [(.t 5)])⟩, ⟨(some 7), none, (.un .not (.t 6))⟩]) (.cond (.t 7) (.seq (.reg [⟨(some 2), none, (.mov (.c (.bool false)))⟩]) .ret) .skip)) (.seq (.seq (.reg [⟨(some 8), none, (.fad 1 (.t 1))⟩, ⟨(some 9), none, (.ld none .nil (.t 8))⟩, ⟨(some 10), none, (.len (.t 9))⟩, ⟨(some 11), none, (.mov (.c (.int .i64 0)))⟩]) (.block 0 (.loop sc_i_IsPure_L0))) (.seq (.reg [⟨(some 2), none, (.mov (.c (.bool true)))⟩]) .ret))))
end Go.Proofs.Ytmemomfffehnkaa
namespace Go.Proofs.Ytmemomfffehnkaa
open Go Go.RowKit
set_option maxRecDepth 1000000
set_option linter.unusedSimpArgs false
set_option linter.unusedVariables false
set_option maxHeartbeats 1000000
def sc_i_hasSet : SC := (.seq (.reg [⟨(some 4), none, (.mov (.c (.bool false)))⟩]) (.seq (.reg [⟨(some 5), none, (.mov (.t 0))⟩, ⟨(some 6), none, (.mov (.t 1))⟩, ⟨(some 7), none, (.conv .u64 (.t 6))⟩, ⟨(some 8), none, (.bin false .shr (.t 5) (.t 7))⟩, ⟨(some 9), none, (.bin false .and (.t 8) (.c (.int .u64 1)))⟩, ⟨(some 10), none, (.bin false .eql (.t 9) (.c (.int .u64 1)))⟩, ⟨(some 4), none, (.mov (.t 10))⟩]) .ret))
theorem code_i_hasSet : fnCode Try.prog [] 182 = some (11, sc_i_hasSet, [(4, none)]) := by kernel_rfl
def dU : V → Option Int
  | .int .u64 n => some n
  | _ => none
@[simp] theorem dU_int (n : Int) : dU (.int .u64 n) = some n := rfl
theorem dU_inv {v : V} {n : Int} (h : dU v = some n) : v = .int .u64 n := by
  unfold dU at h
  split at h
  · injection h with h; rw [h]
  · simp at h
noncomputable def hasG (f s : Int) : Option V := @ite _ (0 ≤ f ∧ f < 18446744073709551616 ∧ 0 ≤ s ∧ s < 64) (Classical.propDecidable _) (some (.bool (f.toNat.testBit s.toNat))) none
noncomputable def F_i_hasSet : List V → Option V := F2 dU dI hasG
theorem fn_i_hasSet : FnOk Try.prog 182 F_i_hasSet := by
  refine fn_ok code_i_hasSet mixed envNil_ok ?_
  intro args r h hb
  obtain ⟨_, _, f, s, rfl, h1, h2, h4⟩ := F2_inv h
  cases dU_inv h1
  cases dI_inv h2
  clear h
  simp only [hasG, Option.ite_none_right_eq_some, Option.some.injEq] at h4
  obtain ⟨⟨h1, h2, h3, h5⟩, rfl⟩ := h4
  refine ⟨by simp, fun w0 U0 L0 N0 => ?_⟩
  obtain ⟨m, rfl⟩ : ∃ m : Nat, f = m := ⟨f.toNat, by omega⟩
  obtain ⟨k, rfl⟩ : ∃ k : Nat, s = k := ⟨s.toNat, by omega⟩
  have hu : IntKind.u64.wrap (k : Int) = k := wrapU _ (by omega) (by omega)
  have hm : min k IntKind.u64.bits = k := by simp only [IntKind.bits]; omega
  have hd : (m : Int).fdiv (2 ^ k) = ((m / 2 ^ k : Nat) : Int) := by
    rw [Int.fdiv_eq_ediv_of_nonneg _ (by have := Int.natCast_nonneg (2 ^ k); simpa using this)]
    simp
  have hb : bitop .and .u64 (((m / 2 ^ k : Nat) : Int)) 1 = ((m / 2 ^ k % 2 : Nat) : Int) := by
    have hle : m / 2 ^ k ≤ m := Nat.div_le_self ..
    rw [show (1 : Int) = ((1 : Nat) : Int) from rfl, bitsU_and _ 1 (by omega) (by omega), Nat.and_one_is_mod]
  have ht : (((m / 2 ^ k % 2 : Nat) : Int) == 1) = m.testBit k := by
    rw [Nat.testBit_eq_decide_div_mod_eq]
    generalize m / 2 ^ k % 2 = x
    rw [Bool.eq_iff_iff, beq_iff_eq, decide_eq_true_iff]
    omega
  simp -implicitDefEqProofs [sc_i_hasSet, hu, hm, hd]
  have hq : (m : Int) / 2 ^ k = ((m / 2 ^ k : Nat) : Int) := by simp
  rw [hq, hb]
  exact ht
end Go.Proofs.Ytmemomfffehnkaa
namespace Go.Proofs.Ytmemomfffehnkaa
open Go Go.RowKit
set_option maxRecDepth 1000000
set_option linter.unusedSimpArgs false
set_option linter.unusedVariables false
set_option maxHeartbeats 1000000
/-- One round of a search: the facets next to d are added. -/
def growI (l : List Int) (d : Int) (done : List Int) : List Int := l.foldl (fun dn f => if f ∉ dn ∧ sizeOf1 (bnot f d) = 1 then dn ++ [f] else dn) done
theorem growI_step {l : List Int} {k : Nat} (h : k < l.length) (d : Int) (done : List Int) :
    growI (l.take (k + 1)) d done = if at0 l k ∉ growI (l.take k) d done ∧ sizeOf1 (bnot (at0 l k) d) = 1 then growI (l.take k) d done ++ [at0 l k] else growI (l.take k) d done := by
  rw [take_at h, growI, List.foldl_append]
  rfl
/-- The search, by fuel. -/
def chainF (l : List Int) : Nat → Nat → List Int → List Int
  | 0, _, dn => dn
  | fuel + 1, k, dn => if k < dn.length then chainF l fuel (k + 1) (growI l (at0 dn k) dn) else dn
theorem growI_inv {l : List Int} (d : Int) {done : List Int} (h1 : done.Nodup) (h2 : ∀ x ∈ done, x ∈ l) : ∀ k, k ≤ l.length →
    (growI (l.take k) d done).Nodup ∧ (∀ x ∈ growI (l.take k) d done, x ∈ l) ∧ ∃ r, growI (l.take k) d done = done ++ r := by
  intro k
  induction k with
  | zero => intro _; exact ⟨by simpa [growI] using h1, by simpa [growI] using h2, [], by simp [growI]⟩
  | succ k ih =>
    intro hk
    obtain ⟨a, b, r, c⟩ := ih (by omega)
    rw [growI_step (by omega)]
    split
    · rename_i hc
      refine ⟨?_, ?_, r ++ [at0 l k], by rw [c]; simp⟩
      · rw [List.nodup_append]
        refine ⟨a, by simp, ?_⟩
        intro x hx y hy e
        simp only [List.mem_singleton] at hy
        subst hy
        exact hc.1 (e ▸ hx)
      · intro x hx
        rcases List.mem_append.1 hx with h | h
        · exact b x h
        · simp only [List.mem_singleton] at h
          exact h ▸ getD_mem' (by omega)
    · exact ⟨a, b, r, c⟩
theorem beside {f d : Int} (hf : isS f) (hd : isS d) (h : sz f = sz d) : sz (band d f) = sz d - 1 ↔ sizeOf1 (bnot f d) = 1 := by
  obtain ⟨x, hx, rfl⟩ := isS_nat0 hf
  obtain ⟨y, hy, rfl⟩ := isS_nat0 hd
  have key : ∀ x : Nat, x < 64 → ∀ y : Nat, y < 64 → (pcF 6 x != pcF 6 y || ((pcF 6 (y &&& x) + 1 == pcF 6 y) == (pcF 6 (x - (x &&& y)) == 1))) = true := by decide +kernel
  have k := key x hx y hy
  rw [bnot_nat0 x y hx hy, band_nat0 y x hy hx, sizeOf1_set (by omega) (by omega)]
  have h1 := and_lt64 (y := x) hy
  simp only [sz, Int.toNat_natCast, pc6 x hx, pc6 y hy, pc6 _ h1, pc6 (x - (x &&& y)) (by omega)] at h ⊢
  have h2 : (pcF 6 x != pcF 6 y) = false := by
    rw [bne_eq_false_iff_eq]
    omega
  rw [h2, Bool.false_or, beq_iff_eq, Bool.eq_iff_iff, beq_iff_eq, beq_iff_eq] at k
  omega
theorem nodup_len {l : List Int} (h : l.Nodup) (hS : allS l) : l.length ≤ 64 := by
  have := sub_len (m := (List.range 64).map fun (k : Nat) => (k : Int)) h fun x hx => by
    refine List.mem_map.2 ⟨x.toNat, ?_, ?_⟩
    · have := hS x hx; rw [List.mem_range]; unfold isS at this; omega
    · exact Int.toNat_of_nonneg (hS x hx).1
  simpa using this
end Go.Proofs.Ytmemomfffehnkaa
